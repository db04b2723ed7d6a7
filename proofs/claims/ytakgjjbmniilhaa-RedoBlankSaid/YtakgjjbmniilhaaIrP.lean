/- The code of this seat struck bare (printed by program). -/
import Derived.Test.YtakgjjbmniilhaaProg
import Derived.Test.YtakgjjbmniilhaaV4
import Derived.KernelRfl
set_option linter.unusedVariables false
set_option linter.unusedSimpArgs false
set_option linter.unusedSimpArgs false
set_option maxRecDepth 100000
namespace Go.Proofs.Ytakgjjbmniilhaa
open Go Go.Vm
def ir3 : LC := (.seq (.ops [⟨some 6, .assign (.const (.bool false)), none⟩])
 (.seq (.seq (.ops [⟨some 16, .move (.tmp 2), none⟩,
 ⟨some 17, .call ⟨.builtin .len, #[.tmp 16], #[22]⟩, none⟩,
 ⟨some 18, .binOp .gtr 3 (.tmp 17) (.const (.int .i64 9000)) 3, none⟩])
 (.cond (.tmp 18)
 (.seq (.ops [⟨some 19, .call ⟨.value (.func 7), #[], #[]⟩, none⟩,
 ⟨some 6, .assign (.tmp 19), none⟩])
 .ret)
 .skip))
 (.seq (.ops [⟨some 21, .call ⟨.value (.func 8), #[.const (.int .i64 48)], #[3]⟩, none⟩,
 ⟨some 20, .move (.tmp 21), none⟩,
 ⟨some 22, .extract (.tmp 20) 0, none⟩,
 ⟨some 23, .extract (.tmp 20) 1, none⟩,
 ⟨some 7, .assign (.tmp 22), none⟩,
 ⟨some 8, .assign (.tmp 23), none⟩])
 (.seq (.ops [⟨some 25, .move (.tmp 2), none⟩,
 ⟨some 26, .call ⟨.value (.func 9), #[.tmp 25], #[22]⟩, none⟩,
 ⟨some 24, .move (.tmp 26), none⟩,
 ⟨some 27, .extract (.tmp 24) 0, none⟩,
 ⟨some 28, .extract (.tmp 24) 1, none⟩,
 ⟨some 9, .assign (.tmp 27), none⟩,
 ⟨some 10, .assign (.tmp 28), none⟩])
 (.seq (.ops [⟨some 30, .move (.tmp 2), none⟩,
 ⟨some 31, .call ⟨.value (.func 10), #[.tmp 30], #[22]⟩, none⟩,
 ⟨some 29, .move (.tmp 31), none⟩,
 ⟨some 32, .extract (.tmp 29) 0, none⟩,
 ⟨some 33, .extract (.tmp 29) 1, none⟩,
 ⟨some 11, .assign (.tmp 32), none⟩,
 ⟨some 12, .assign (.tmp 33), none⟩])
 (.seq (.seq (.ops [⟨some 34, .move (.tmp 9), none⟩,
 ⟨some 35, .move (.tmp 11), none⟩,
 ⟨some 36, .binOp .neq 3 (.tmp 34) (.tmp 35) 3, none⟩,
 ⟨some 37, .move (.tmp 36), none⟩,
 ⟨some 38, .move (.tmp 10), some (37, false)⟩,
 ⟨some 39, .move (.tmp 12), some (37, false)⟩,
 ⟨some 40, .binOp .neq 3 (.tmp 38) (.tmp 39) 3, some (37, false)⟩,
 ⟨some 41, .pick (.tmp 37) (.const (.bool true)) (.tmp 40), none⟩])
 (.cond (.tmp 41)
 (.seq (.ops [⟨some 6, .assign (.const (.bool false)), none⟩])
 .ret)
 .skip))
 (.seq (.ops [⟨some 43, .move (.tmp 7), none⟩,
 ⟨some 44, .move (.tmp 0), none⟩,
 ⟨some 45, .move (.tmp 1), none⟩,
 ⟨some 46, .call ⟨.value (.func 11), #[.tmp 43, .tmp 44, .tmp 45], #[24, 3, 3]⟩, none⟩,
 ⟨some 42, .move (.tmp 46), none⟩,
 ⟨some 47, .extract (.tmp 42) 0, none⟩,
 ⟨some 48, .extract (.tmp 42) 1, none⟩,
 ⟨some 13, .assign (.tmp 47), none⟩,
 ⟨some 10, .assign (.tmp 48), none⟩])
 (.seq (.ops [⟨some 49, .move (.tmp 7), none⟩,
 ⟨some 50, .move (.tmp 0), none⟩,
 ⟨some 51, .move (.tmp 1), none⟩,
 ⟨some 52, .call ⟨.value (.func 12), #[.tmp 49, .tmp 50, .tmp 51], #[24, 3, 3]⟩, none⟩,
 ⟨some 14, .assign (.tmp 52), none⟩])
 (.seq (.seq (.ops [⟨some 53, .move (.tmp 14), none⟩,
 ⟨some 54, .move (.tmp 10), none⟩,
 ⟨some 55, .binOp .neq 25 (.tmp 53) (.tmp 54) 25, none⟩])
 (.cond (.tmp 55)
 (.seq (.ops [⟨some 6, .assign (.const (.bool false)), none⟩])
 .ret)
 .skip))
 (.seq (.seq (.ops [⟨some 56, .move (.tmp 10), none⟩,
 ⟨some 57, .binOp .neq 25 (.tmp 56) (.const (.int .i64 0)) 25, none⟩])
 (.cond (.tmp 57)
 (.seq (.ops [⟨some 58, .move (.tmp 10), none⟩,
 ⟨some 59, .binOp .eql 25 (.tmp 58) (.const (.int .i64 2)) 25, none⟩,
 ⟨some 60, .move (.tmp 59), none⟩,
 ⟨some 61, .call ⟨.value (.func 7), #[], #[]⟩, some (60, true)⟩,
 ⟨some 62, .pick (.tmp 60) (.tmp 61) (.const (.bool false)), none⟩,
 ⟨some 6, .assign (.tmp 62), none⟩])
 .ret)
 .skip))
 (.seq (.ops [⟨some 63, .move (.tmp 13), none⟩,
 ⟨some 64, .move (.tmp 2), none⟩,
 ⟨some 65, .call ⟨.value (.func 13), #[.tmp 63, .tmp 64], #[32, 22]⟩, none⟩])
 (.seq (.ops [⟨some 66, .move (.tmp 13), none⟩,
 ⟨some 67, .call ⟨.value (.func 14), #[.tmp 66], #[32]⟩, none⟩])
 (.seq (.seq (.ops [⟨some 68, .move (.tmp 7), none⟩,
 ⟨some 69, .move (.tmp 0), none⟩,
 ⟨some 70, .move (.tmp 1), none⟩,
 ⟨some 71, .call ⟨.value (.func 12), #[.tmp 68, .tmp 69, .tmp 70], #[24, 3, 3]⟩, none⟩,
 ⟨some 72, .binOp .neq 25 (.tmp 71) (.const (.int .i64 0)) 25, none⟩])
 (.cond (.tmp 72)
 (.seq (.ops [⟨some 6, .assign (.const (.bool false)), none⟩])
 .ret)
 .skip))
 (.seq (.ops [⟨some 74, .move (.tmp 7), none⟩,
 ⟨some 75, .move (.tmp 0), none⟩,
 ⟨some 76, .move (.tmp 1), none⟩,
 ⟨some 77, .call ⟨.value (.func 11), #[.tmp 74, .tmp 75, .tmp 76], #[24, 3, 3]⟩, none⟩,
 ⟨some 73, .move (.tmp 77), none⟩,
 ⟨some 78, .extract (.tmp 73) 0, none⟩,
 ⟨some 79, .extract (.tmp 73) 1, none⟩,
 ⟨some 15, .assign (.tmp 78), none⟩,
 ⟨some 10, .assign (.tmp 79), none⟩])
 (.seq (.seq (.ops [⟨some 80, .move (.tmp 10), none⟩,
 ⟨some 81, .binOp .neq 25 (.tmp 80) (.const (.int .i64 0)) 25, none⟩,
 ⟨some 82, .move (.tmp 81), none⟩,
 ⟨some 83, .move (.tmp 15), some (82, false)⟩,
 ⟨some 84, .call ⟨.value (.func 15), #[.tmp 83], #[32]⟩, some (82, false)⟩,
 ⟨some 85, .binOp .neq 2 (.tmp 84) (.const (.int .i64 1)) 2, some (82, false)⟩,
 ⟨some 86, .pick (.tmp 82) (.const (.bool true)) (.tmp 85), none⟩,
 ⟨some 87, .move (.tmp 86), none⟩,
 ⟨some 88, .move (.tmp 15), some (87, false)⟩,
 ⟨some 89, .call ⟨.value (.func 16), #[.tmp 88], #[32]⟩, some (87, false)⟩,
 ⟨some 90, .call ⟨.builtin .len, #[.tmp 89], #[22]⟩, some (87, false)⟩,
 ⟨some 91, .binOp .neq 3 (.tmp 90) (.const (.int .i64 0)) 3, some (87, false)⟩,
 ⟨some 92, .pick (.tmp 87) (.const (.bool true)) (.tmp 91), none⟩,
 ⟨some 93, .move (.tmp 92), none⟩,
 ⟨some 94, .move (.tmp 15), some (93, false)⟩,
 ⟨some 95, .call ⟨.value (.func 17), #[.tmp 94], #[32]⟩, some (93, false)⟩,
 ⟨some 96, .binOp .neq 2 (.tmp 95) (.const (.int .i64 0)) 2, some (93, false)⟩,
 ⟨some 97, .pick (.tmp 93) (.const (.bool true)) (.tmp 96), none⟩])
 (.cond (.tmp 97)
 (.seq (.ops [⟨some 6, .assign (.const (.bool false)), none⟩])
 .ret)
 .skip))
 (.seq (.ops [⟨some 98, .move (.tmp 15), none⟩,
 ⟨some 99, .buildSlice 22 1 #[(0, .const (.int .u8 97))], none⟩,
 ⟨some 100, .convert 22 22 (.tmp 99), none⟩,
 ⟨some 101, .call ⟨.value (.func 13), #[.tmp 98, .tmp 100], #[32, 22]⟩, none⟩])
 (.seq (.ops [⟨some 102, .move (.tmp 15), none⟩,
 ⟨some 103, .call ⟨.value (.func 14), #[.tmp 102], #[32]⟩, none⟩])
 (.seq (.ops [⟨some 105, .move (.tmp 7), none⟩,
 ⟨some 106, .move (.tmp 0), none⟩,
 ⟨some 107, .move (.tmp 1), none⟩,
 ⟨some 108, .call ⟨.value (.func 11), #[.tmp 105, .tmp 106, .tmp 107], #[24, 3, 3]⟩, none⟩,
 ⟨some 104, .move (.tmp 108), none⟩,
 ⟨some 109, .extract (.tmp 104) 0, none⟩,
 ⟨some 110, .extract (.tmp 104) 1, none⟩,
 ⟨some 15, .assign (.tmp 109), none⟩,
 ⟨some 10, .assign (.tmp 110), none⟩])
 (.seq (.ops [⟨some 111, .move (.tmp 10), none⟩,
 ⟨some 112, .binOp .eql 25 (.tmp 111) (.const (.int .i64 0)) 25, none⟩,
 ⟨some 113, .move (.tmp 112), none⟩,
 ⟨some 114, .move (.tmp 15), some (113, true)⟩,
 ⟨some 115, .call ⟨.value (.func 17), #[.tmp 114], #[32]⟩, some (113, true)⟩,
 ⟨some 116, .binOp .eql 2 (.tmp 115) (.const (.int .i64 1)) 2, some (113, true)⟩,
 ⟨some 117, .pick (.tmp 113) (.tmp 116) (.const (.bool false)), none⟩,
 ⟨some 118, .move (.tmp 117), none⟩,
 ⟨some 119, .call ⟨.value (.func 7), #[], #[]⟩, some (118, true)⟩,
 ⟨some 120, .pick (.tmp 118) (.tmp 119) (.const (.bool false)), none⟩,
 ⟨some 6, .assign (.tmp 120), none⟩])
 .ret)))))))))))))))))))
theorem ir3_eq : (Try.f3.body.map low, Try.f3.ntmps, Try.f3.results.toList) = (some ir3, 121, [.tmp 6]) := by kernel_rfl
def ir8 : LC := (.seq (.ops [⟨some 2, .assign (.const (.pointer none)), none⟩,
 ⟨some 3, .assign (.const (.int .i64 0)), none⟩])
 (.seq (.seq (.ops [⟨some 4, .move (.tmp 0), none⟩,
 ⟨some 5, .binOp .lss 3 (.tmp 4) (.const (.int .i64 1)) 3, none⟩,
 ⟨some 6, .move (.tmp 5), none⟩,
 ⟨some 7, .move (.tmp 0), some (6, false)⟩,
 ⟨some 8, .binOp .gtr 3 (.tmp 7) (.const (.int .i64 4096)) 3, some (6, false)⟩,
 ⟨some 9, .pick (.tmp 6) (.const (.bool true)) (.tmp 8), none⟩])
 (.cond (.tmp 9)
 (.seq (.ops [⟨some 2, .assign (.const (.pointer none)), none⟩,
 ⟨some 3, .assign (.const (.int .i64 2)), none⟩])
 .ret)
 .skip))
 (.seq (.ops [⟨some 10, .move (.tmp 0), none⟩,
 ⟨some 11, .makeSlice 77 (.tmp 10) (.tmp 10), none⟩,
 ⟨some 12, .makeMap 78 none, none⟩,
 ⟨some 13, .build 80 #[(0, .tmp 11), (1, .tmp 12)], none⟩,
 ⟨some 14, .box 80 (.tmp 13), none⟩,
 ⟨some 2, .assign (.tmp 14), none⟩,
 ⟨some 3, .assign (.const (.int .i64 0)), none⟩])
 .ret)))
theorem ir8_eq : (Try.f8.body.map low, Try.f8.ntmps, Try.f8.results.toList) = (some ir8, 15, [.tmp 2, .tmp 3]) := by kernel_rfl
def ir9 : LC := (.seq (.ops [⟨some 2, .assign (.const (.int .i64 0)), none⟩,
 ⟨some 3, .assign (.const (.int .i64 0)), none⟩])
 (.seq (.seq (.ops [⟨some 4, .move (.tmp 0), none⟩,
 ⟨some 5, .call ⟨.builtin .len, #[.tmp 4], #[22]⟩, none⟩,
 ⟨some 6, .binOp .gtr 3 (.tmp 5) (.const (.int .i64 6912)) 3, none⟩])
 (.cond (.tmp 6)
 (.seq (.ops [⟨some 2, .assign (.const (.int .i64 0)), none⟩,
 ⟨some 3, .assign (.const (.int .i64 3)), none⟩])
 .ret)
 .skip))
 (.seq (.ops [⟨some 7, .move (.tmp 0), none⟩,
 ⟨some 8, .call ⟨.builtin .len, #[.tmp 7], #[22]⟩, none⟩,
 ⟨some 9, .binOp .add 3 (.tmp 8) (.const (.int .i64 108)) 3, none⟩,
 ⟨some 10, .binOp .sub 3 (.tmp 9) (.const (.int .i64 1)) 3, none⟩,
 ⟨some 11, .binOp .quo 3 (.tmp 10) (.const (.int .i64 108)) 3, none⟩,
 ⟨some 12, .call ⟨.builtin .max, #[.const (.int .i64 1), .tmp 11], #[3, 3]⟩, none⟩,
 ⟨some 2, .assign (.tmp 12), none⟩,
 ⟨some 3, .assign (.const (.int .i64 0)), none⟩])
 .ret)))
theorem ir9_eq : (Try.f9.body.map low, Try.f9.ntmps, Try.f9.results.toList) = (some ir9, 13, [.tmp 2, .tmp 3]) := by kernel_rfl
def ir10 : LC := (.seq (.ops [⟨some 2, .assign (.const (.int .i64 0)), none⟩,
 ⟨some 3, .assign (.const (.int .i64 0)), none⟩])
 (.seq (.seq (.ops [⟨some 4, .move (.tmp 0), none⟩,
 ⟨some 5, .call ⟨.builtin .len, #[.tmp 4], #[22]⟩, none⟩,
 ⟨some 6, .binOp .gtr 3 (.tmp 5) (.const (.int .i64 6912)) 3, none⟩])
 (.cond (.tmp 6)
 (.seq (.ops [⟨some 2, .assign (.const (.int .i64 0)), none⟩,
 ⟨some 3, .assign (.const (.int .i64 3)), none⟩])
 .ret)
 .skip))
 (.seq (.ops [⟨some 7, .move (.tmp 0), none⟩,
 ⟨some 8, .call ⟨.builtin .len, #[.tmp 7], #[22]⟩, none⟩,
 ⟨some 9, .binOp .add 3 (.tmp 8) (.const (.int .i64 108)) 3, none⟩,
 ⟨some 10, .binOp .sub 3 (.tmp 9) (.const (.int .i64 1)) 3, none⟩,
 ⟨some 11, .binOp .quo 3 (.tmp 10) (.const (.int .i64 108)) 3, none⟩,
 ⟨some 12, .call ⟨.builtin .max, #[.const (.int .i64 1), .tmp 11], #[3, 3]⟩, none⟩,
 ⟨some 2, .assign (.tmp 12), none⟩,
 ⟨some 3, .assign (.const (.int .i64 0)), none⟩])
 .ret)))
theorem ir10_eq : (Try.f10.body.map low, Try.f10.ntmps, Try.f10.results.toList) = (some ir10, 13, [.tmp 2, .tmp 3]) := by kernel_rfl
def ir11 : LC := (.seq (.ops [⟨some 6, .assign (.const (.pointer none)), none⟩,
 ⟨some 7, .assign (.const (.int .i64 0)), none⟩])
 (.seq (.ops [⟨some 13, .move (.tmp 0), none⟩,
 ⟨some 14, .move (.tmp 1), none⟩,
 ⟨some 15, .move (.tmp 2), none⟩,
 ⟨some 16, .call ⟨.value (.func 33), #[.tmp 13, .tmp 14, .tmp 15], #[24, 3, 3]⟩, none⟩,
 ⟨some 12, .move (.tmp 16), none⟩,
 ⟨some 17, .extract (.tmp 12) 0, none⟩,
 ⟨some 18, .extract (.tmp 12) 1, none⟩,
 ⟨some 8, .assign (.tmp 17), none⟩,
 ⟨some 9, .assign (.tmp 18), none⟩])
 (.seq (.seq (.ops [⟨some 19, .move (.tmp 9), none⟩,
 ⟨some 20, .binOp .neq 25 (.tmp 19) (.const (.int .i64 0)) 25, none⟩])
 (.cond (.tmp 20)
 (.seq (.ops [⟨some 21, .move (.tmp 9), none⟩,
 ⟨some 6, .assign (.const (.pointer none)), none⟩,
 ⟨some 7, .assign (.tmp 21), none⟩])
 .ret)
 .skip))
 (.seq (.ops [⟨some 23, .move (.tmp 8), none⟩,
 ⟨some 24, .call ⟨.value (.func 34), #[.tmp 23], #[32]⟩, none⟩,
 ⟨some 22, .move (.tmp 24), none⟩,
 ⟨some 25, .extract (.tmp 22) 0, none⟩,
 ⟨some 26, .extract (.tmp 22) 1, none⟩,
 ⟨some 10, .alloc 44, none⟩,
 ⟨none, .store 44 (.tmp 10) (.tmp 25), none⟩,
 ⟨some 11, .assign (.tmp 26), none⟩])
 (.seq (.seq (.ops [⟨some 27, .move (.tmp 11), none⟩,
 ⟨some 28, .unOp .not 4 (.tmp 27), none⟩])
 (.cond (.tmp 28)
 (.seq (.ops [⟨some 6, .assign (.const (.pointer none)), none⟩,
 ⟨some 7, .assign (.const (.int .i64 13)), none⟩])
 .ret)
 .skip))
 (.seq (.ops [⟨some 29, .move (.tmp 8), none⟩,
 ⟨some 30, .load 44 (.tmp 10), none⟩,
 ⟨some 31, .nilCheck (.tmp 29), none⟩,
 ⟨some 32, .fieldAddr 47 (.tmp 31) 3, none⟩,
 ⟨none, .store 44 (.tmp 32) (.tmp 30), none⟩])
 (.seq (.ops [⟨some 33, .move (.tmp 8), none⟩,
 ⟨some 34, .call ⟨.value (.func 35), #[.tmp 33], #[32]⟩, none⟩])
 (.seq (.ops [⟨some 35, .fieldAddr 44 (.tmp 10) 0, none⟩,
 ⟨some 36, .load 42 (.tmp 35), none⟩,
 ⟨some 37, .binOp .add 42 (.tmp 36) (.const (.int .u64 1)) 42, none⟩,
 ⟨some 38, .fieldAddr 44 (.tmp 10) 0, none⟩,
 ⟨none, .store 42 (.tmp 38) (.tmp 37), none⟩])
 (.seq (.ops [⟨some 39, .move (.tmp 8), none⟩,
 ⟨some 40, .load 44 (.tmp 10), none⟩,
 ⟨some 41, .call ⟨.value (.func 36), #[.tmp 39, .tmp 40], #[32, 44]⟩, none⟩])
 (.seq (.ops [⟨some 42, .move (.tmp 8), none⟩,
 ⟨some 43, .move (.tmp 8), none⟩,
 ⟨some 44, .nilCheck (.tmp 43), none⟩,
 ⟨some 45, .fieldAddr 47 (.tmp 44) 4, none⟩,
 ⟨some 46, .load 42 (.tmp 45), none⟩,
 ⟨some 47, .binOp .sub 42 (.tmp 46) (.const (.int .u64 1)) 42, none⟩,
 ⟨some 48, .nilCheck (.tmp 42), none⟩,
 ⟨some 49, .fieldAddr 47 (.tmp 48) 6, none⟩,
 ⟨none, .store 42 (.tmp 49) (.tmp 47), none⟩])
 (.seq (.ops [⟨some 50, .move (.tmp 8), none⟩,
 ⟨some 6, .assign (.tmp 50), none⟩,
 ⟨some 7, .assign (.const (.int .i64 0)), none⟩])
 .ret)))))))))))
theorem ir11_eq : (Try.f11.body.map low, Try.f11.ntmps, Try.f11.results.toList) = (some ir11, 51, [.tmp 6, .tmp 7]) := by kernel_rfl
def ir12_l0 : LC := (.seq (.ops [⟨some 22, .binOp .lss 3 (.tmp 21) (.tmp 20) 3, none⟩])
 (.seq (.cond (.tmp 22)
 .skip
 (.exit 0))
 (.seq (.block 1 (.seq (.ops [⟨some 23, .move (.tmp 21), none⟩,
 ⟨some 9, .assign (.tmp 23), none⟩])
 (.ops [⟨some 24, .move (.tmp 0), none⟩,
 ⟨some 25, .move (.tmp 1), none⟩,
 ⟨some 26, .move (.tmp 9), none⟩,
 ⟨some 27, .binOp .add 3 (.tmp 25) (.tmp 26) 3, none⟩,
 ⟨some 28, .call ⟨.value (.func 37), #[.const (.slice none 0 0)], #[22]⟩, none⟩,
 ⟨some 29, .call ⟨.value (.func 30), #[.tmp 24, .tmp 27, .tmp 28], #[24, 3, 22]⟩, none⟩])))
 (.ops [⟨some 30, .binOp .add 3 (.tmp 21) (.const (.int .i64 1)) 3, none⟩,
 ⟨some 21, .move (.tmp 30), none⟩]))))
def ir12 : LC := (.seq (.ops [⟨some 6, .assign (.const (.int .i64 0)), none⟩])
 (.seq (.ops [⟨some 11, .move (.tmp 0), none⟩,
 ⟨some 12, .move (.tmp 1), none⟩,
 ⟨some 13, .move (.tmp 2), none⟩,
 ⟨some 14, .call ⟨.value (.func 33), #[.tmp 11, .tmp 12, .tmp 13], #[24, 3, 3]⟩, none⟩,
 ⟨some 10, .move (.tmp 14), none⟩,
 ⟨some 15, .extract (.tmp 10) 0, none⟩,
 ⟨some 16, .extract (.tmp 10) 1, none⟩,
 ⟨some 7, .assign (.tmp 15), none⟩,
 ⟨some 8, .assign (.tmp 16), none⟩])
 (.seq (.seq (.ops [⟨some 17, .move (.tmp 8), none⟩,
 ⟨some 18, .binOp .neq 25 (.tmp 17) (.const (.int .i64 0)) 25, none⟩])
 (.cond (.tmp 18)
 (.seq (.ops [⟨some 19, .move (.tmp 8), none⟩,
 ⟨some 6, .assign (.tmp 19), none⟩])
 .ret)
 .skip))
 (.seq (.seq (.ops [⟨some 20, .move (.tmp 2), none⟩,
 ⟨some 21, .move (.const (.int .i64 0)), none⟩])
 (.block 0 (.loop ir12_l0)))
 (.seq (.draw [⟨some 31, .move (.tmp 0), none⟩,
 ⟨some 32, .move (.tmp 7), none⟩,
 ⟨some 33, .nilCheck (.tmp 32), none⟩,
 ⟨some 34, .fieldAddr 47 (.tmp 33) 1, none⟩,
 ⟨some 35, .load 3 (.tmp 34), none⟩,
 ⟨some 36, .move (.tmp 7), none⟩,
 ⟨some 37, .nilCheck (.tmp 36), none⟩,
 ⟨some 38, .fieldAddr 47 (.tmp 37) 2, none⟩,
 ⟨some 39, .load 3 (.tmp 38), none⟩,
 ⟨some 40, .call ⟨.value (.func 38), #[.tmp 31, .tmp 35, .tmp 39], #[24, 3, 3]⟩, none⟩,
 ⟨some 6, .assign (.tmp 40), none⟩] [])
 .ret)))))
theorem ir12_eq : (Try.f12.body.map low, Try.f12.ntmps, Try.f12.results.toList) = (some ir12, 41, [.tmp 6]) := by kernel_rfl
def ir13_l0 : LC := (.seq (.ops [⟨some 38, .binOp .lss 3 (.tmp 37) (.tmp 36) 3, none⟩])
 (.seq (.cond (.tmp 38)
 .skip
 (.exit 1))
 (.seq (.block 2 (.seq (.ops [⟨some 39, .move (.tmp 37), none⟩,
 ⟨some 11, .assign (.tmp 39), none⟩])
 (.seq (.ops [⟨some 40, .move (.tmp 10), none⟩,
 ⟨some 41, .call ⟨.builtin .len, #[.tmp 40], #[22]⟩, none⟩,
 ⟨some 42, .call ⟨.builtin .min, #[.tmp 41, .const (.int .i64 108)], #[3, 3]⟩, none⟩,
 ⟨some 12, .assign (.tmp 42), none⟩])
 (.seq (.draw [⟨some 43, .move (.tmp 0), none⟩,
 ⟨some 44, .nilCheck (.tmp 43), none⟩,
 ⟨some 45, .fieldAddr 47 (.tmp 44) 0, none⟩,
 ⟨some 46, .load 24 (.tmp 45), none⟩,
 ⟨some 47, .move (.tmp 0), none⟩,
 ⟨some 48, .nilCheck (.tmp 47), none⟩,
 ⟨some 49, .fieldAddr 47 (.tmp 48) 3, none⟩,
 ⟨some 50, .fieldAddr 44 (.tmp 49) 2, none⟩,
 ⟨some 51, .load 42 (.tmp 50), none⟩,
 ⟨some 52, .indexAddr 86 (.tmp 8) (.tmp 51), none⟩,
 ⟨some 53, .load 3 (.tmp 52), none⟩,
 ⟨some 54, .move (.tmp 0), none⟩,
 ⟨some 55, .nilCheck (.tmp 54), none⟩,
 ⟨some 56, .fieldAddr 47 (.tmp 55) 5, none⟩,
 ⟨some 57, .load 3 (.tmp 56), none⟩,
 ⟨some 58, .binOp .add 3 (.tmp 53) (.tmp 57) 3, none⟩,
 ⟨some 59, .move (.tmp 11), none⟩,
 ⟨some 60, .binOp .add 3 (.tmp 58) (.tmp 59) 3, none⟩,
 ⟨some 61, .move (.tmp 0), none⟩,
 ⟨some 62, .nilCheck (.tmp 61), none⟩,
 ⟨some 63, .fieldAddr 47 (.tmp 62) 4, none⟩,
 ⟨some 64, .load 42 (.tmp 63), none⟩,
 ⟨some 65, .move (.tmp 0), none⟩,
 ⟨some 66, .nilCheck (.tmp 65), none⟩,
 ⟨some 67, .fieldAddr 47 (.tmp 66) 3, none⟩,
 ⟨some 68, .fieldAddr 44 (.tmp 67) 0, none⟩,
 ⟨some 69, .load 42 (.tmp 68), none⟩,
 ⟨some 70, .move (.tmp 11), none⟩,
 ⟨some 71, .convert 3 5 (.tmp 70), none⟩,
 ⟨some 72, .move (.tmp 6), none⟩,
 ⟨some 73, .convert 3 5 (.tmp 72), none⟩,
 ⟨some 74, .build 90 #[(0, .tmp 64), (1, .tmp 69), (2, .tmp 71), (3, .tmp 73)], none⟩,
 ⟨some 75, .move (.tmp 10), none⟩,
 ⟨some 76, .move (.tmp 12), none⟩,
 ⟨some 77, .slice 22 (.tmp 75) none (some (.tmp 76)) none, none⟩,
 ⟨some 78, .call ⟨.value (.func 41), #[.tmp 74, .tmp 77], #[90, 22]⟩, none⟩,
 ⟨some 79, .call ⟨.value (.func 30), #[.tmp 46, .tmp 60, .tmp 78], #[24, 3, 22]⟩, none⟩] [(0, 35), (1, 35), (2, 35), (3, 35), (4, 35), (5, 35), (6, 35), (7, 35), (8, 35), (9, 35), (10, 35), (11, 35), (12, 35), (13, 35), (14, 35), (15, 35), (16, 35), (17, 35)])
 (.ops [⟨some 80, .move (.tmp 10), none⟩,
 ⟨some 81, .move (.tmp 12), none⟩,
 ⟨some 82, .slice 22 (.tmp 80) (some (.tmp 81)) none none, none⟩,
 ⟨some 10, .assign (.tmp 82), none⟩])))))
 (.ops [⟨some 83, .binOp .add 3 (.tmp 37) (.const (.int .i64 1)) 3, none⟩,
 ⟨some 37, .move (.tmp 83), none⟩]))))
def ir13 : LC := (.seq (.ops [⟨some 4, .assign (.const (.int .i64 0)), none⟩,
 ⟨some 5, .assign (.const (.int .i64 0)), none⟩])
 (.seq (.seq (.ops [⟨some 13, .move (.tmp 0), none⟩,
 ⟨some 14, .call ⟨.value (.func 39), #[.tmp 13], #[32]⟩, none⟩,
 ⟨some 15, .unOp .not 4 (.tmp 14), none⟩])
 (.cond (.tmp 15)
 (.seq (.ops [⟨some 4, .assign (.const (.int .i64 0)), none⟩,
 ⟨some 5, .assign (.const (.int .i64 1)), none⟩])
 .ret)
 .skip))
 (.seq (.ops [⟨some 17, .move (.tmp 1), none⟩,
 ⟨some 18, .call ⟨.value (.func 9), #[.tmp 17], #[22]⟩, none⟩,
 ⟨some 16, .move (.tmp 18), none⟩,
 ⟨some 19, .extract (.tmp 16) 0, none⟩,
 ⟨some 20, .extract (.tmp 16) 1, none⟩,
 ⟨some 6, .assign (.tmp 19), none⟩,
 ⟨some 7, .assign (.tmp 20), none⟩])
 (.seq (.block 0 (.seq (.ops [⟨some 22, .move (.tmp 7), none⟩,
 ⟨some 23, .binOp .neq 25 (.tmp 22) (.const (.int .i64 0)) 25, none⟩,
 ⟨some 21, .assign (.tmp 23), none⟩])
 (.cond (.tmp 21)
 (.seq (.ops [⟨some 24, .move (.tmp 7), none⟩,
 ⟨some 4, .assign (.const (.int .i64 0)), none⟩,
 ⟨some 5, .assign (.tmp 24), none⟩])
 .ret)
 (.seq (.ops [⟨some 26, .move (.tmp 6), none⟩,
 ⟨some 27, .move (.tmp 0), none⟩,
 ⟨some 28, .call ⟨.value (.func 19), #[.tmp 27], #[32]⟩, none⟩,
 ⟨some 29, .binOp .gtr 3 (.tmp 26) (.tmp 28) 3, none⟩,
 ⟨some 25, .assign (.tmp 29), none⟩])
 (.cond (.tmp 25)
 (.seq (.ops [⟨some 4, .assign (.const (.int .i64 0)), none⟩,
 ⟨some 5, .assign (.const (.int .i64 5)), none⟩])
 .ret)
 .skip)))))
 (.seq (.ops [⟨some 31, .move (.tmp 0), none⟩,
 ⟨some 32, .call ⟨.value (.func 40), #[.tmp 31], #[32]⟩, none⟩,
 ⟨some 30, .move (.tmp 32), none⟩,
 ⟨some 33, .extract (.tmp 30) 0, none⟩,
 ⟨some 34, .extract (.tmp 30) 1, none⟩,
 ⟨some 8, .alloc 86, none⟩,
 ⟨none, .store 86 (.tmp 8) (.tmp 33), none⟩,
 ⟨some 9, .assign (.tmp 34), none⟩])
 (.seq (.ops [⟨some 35, .move (.tmp 1), none⟩,
 ⟨some 10, .assign (.tmp 35), none⟩])
 (.seq (.seq (.ops [⟨some 36, .move (.tmp 6), none⟩,
 ⟨some 37, .move (.const (.int .i64 0)), none⟩])
 (.block 1 (.loop ir13_l0)))
 (.seq (.ops [⟨some 84, .move (.tmp 0), none⟩,
 ⟨some 85, .nilCheck (.tmp 84), none⟩,
 ⟨some 86, .fieldAddr 47 (.tmp 85) 5, none⟩,
 ⟨some 87, .load 3 (.tmp 86), none⟩,
 ⟨some 88, .move (.tmp 6), none⟩,
 ⟨some 89, .binOp .add 3 (.tmp 87) (.tmp 88) 3, none⟩,
 ⟨some 90, .nilCheck (.tmp 84), none⟩,
 ⟨some 91, .fieldAddr 47 (.tmp 90) 5, none⟩,
 ⟨none, .store 3 (.tmp 91) (.tmp 89), none⟩])
 (.seq (.ops [⟨some 92, .move (.tmp 0), none⟩,
 ⟨some 93, .nilCheck (.tmp 92), none⟩,
 ⟨some 94, .fieldAddr 47 (.tmp 93) 4, none⟩,
 ⟨some 95, .load 42 (.tmp 94), none⟩,
 ⟨some 96, .binOp .add 42 (.tmp 95) (.const (.int .u64 1)) 42, none⟩,
 ⟨some 97, .nilCheck (.tmp 92), none⟩,
 ⟨some 98, .fieldAddr 47 (.tmp 97) 4, none⟩,
 ⟨none, .store 42 (.tmp 98) (.tmp 96), none⟩])
 (.seq (.draw [⟨some 99, .move (.tmp 0), none⟩,
 ⟨some 100, .move (.tmp 0), none⟩,
 ⟨some 101, .nilCheck (.tmp 100), none⟩,
 ⟨some 102, .fieldAddr 47 (.tmp 101) 8, none⟩,
 ⟨some 103, .load 45 (.tmp 102), none⟩,
 ⟨some 104, .move (.tmp 1), none⟩,
 ⟨some 105, .call ⟨.value (.func 42), #[.tmp 104], #[22]⟩, none⟩,
 ⟨some 106, .buildSlice 45 1 #[(0, .tmp 105)], none⟩,
 ⟨some 107, .call ⟨.builtin .append, #[.tmp 103, .tmp 106], #[45, 45]⟩, none⟩,
 ⟨some 108, .nilCheck (.tmp 99), none⟩,
 ⟨some 109, .fieldAddr 47 (.tmp 108) 8, none⟩,
 ⟨none, .store 45 (.tmp 109) (.tmp 107), none⟩] [(0, 6), (1, 6), (2, 6), (3, 6), (4, 6), (0, 7), (1, 7), (2, 7), (3, 7), (4, 7), (0, 8)])
 (.seq (.ops [⟨some 110, .move (.tmp 0), none⟩,
 ⟨some 111, .nilCheck (.tmp 110), none⟩,
 ⟨some 112, .fieldAddr 47 (.tmp 111) 4, none⟩,
 ⟨some 113, .load 42 (.tmp 112), none⟩,
 ⟨some 114, .binOp .sub 42 (.tmp 113) (.const (.int .u64 1)) 42, none⟩,
 ⟨some 115, .convert 42 2 (.tmp 114), none⟩,
 ⟨some 4, .assign (.tmp 115), none⟩,
 ⟨some 5, .assign (.const (.int .i64 0)), none⟩])
 .ret)))))))))))
theorem ir13_eq : (Try.f13.body.map low, Try.f13.ntmps, Try.f13.results.toList) = (some ir13, 116, [.tmp 4, .tmp 5]) := by kernel_rfl
def ir14 : LC := (.seq (.ops [⟨some 2, .assign (.const (.int .i64 0)), none⟩])
 (.seq (.seq (.ops [⟨some 3, .move (.tmp 0), none⟩,
 ⟨some 4, .call ⟨.value (.func 39), #[.tmp 3], #[32]⟩, none⟩,
 ⟨some 5, .unOp .not 4 (.tmp 4), none⟩])
 (.cond (.tmp 5)
 (.seq (.ops [⟨some 2, .assign (.const (.int .i64 1)), none⟩])
 .ret)
 .skip))
 (.seq (.draw [⟨some 6, .move (.tmp 0), none⟩,
 ⟨some 7, .nilCheck (.tmp 6), none⟩,
 ⟨some 8, .fieldAddr 47 (.tmp 7) 0, none⟩,
 ⟨some 9, .load 24 (.tmp 8), none⟩,
 ⟨some 10, .move (.tmp 0), none⟩,
 ⟨some 11, .nilCheck (.tmp 10), none⟩,
 ⟨some 12, .fieldAddr 47 (.tmp 11) 1, none⟩,
 ⟨some 13, .load 3 (.tmp 12), none⟩,
 ⟨some 14, .move (.tmp 0), none⟩,
 ⟨some 15, .nilCheck (.tmp 14), none⟩,
 ⟨some 16, .fieldAddr 47 (.tmp 15) 2, none⟩,
 ⟨some 17, .load 3 (.tmp 16), none⟩,
 ⟨some 18, .call ⟨.value (.func 38), #[.tmp 9, .tmp 13, .tmp 17], #[24, 3, 3]⟩, none⟩] [])
 (.seq (.ops [⟨some 19, .move (.tmp 0), none⟩,
 ⟨some 20, .move (.tmp 0), none⟩,
 ⟨some 21, .nilCheck (.tmp 20), none⟩,
 ⟨some 22, .fieldAddr 47 (.tmp 21) 4, none⟩,
 ⟨some 23, .load 42 (.tmp 22), none⟩,
 ⟨some 24, .binOp .sub 42 (.tmp 23) (.const (.int .u64 1)) 42, none⟩,
 ⟨some 25, .nilCheck (.tmp 19), none⟩,
 ⟨some 26, .fieldAddr 47 (.tmp 25) 6, none⟩,
 ⟨none, .store 42 (.tmp 26) (.tmp 24), none⟩])
 (.seq (.ops [⟨some 2, .assign (.const (.int .i64 0)), none⟩])
 .ret)))))
theorem ir14_eq : (Try.f14.body.map low, Try.f14.ntmps, Try.f14.results.toList) = (some ir14, 27, [.tmp 2]) := by kernel_rfl
def ir15 : LC := (.seq (.ops [⟨some 2, .assign (.const (.int .i64 0)), none⟩])
 (.seq (.seq (.ops [⟨some 3, .move (.tmp 0), none⟩,
 ⟨some 4, .call ⟨.value (.func 39), #[.tmp 3], #[32]⟩, none⟩,
 ⟨some 5, .unOp .not 4 (.tmp 4), none⟩])
 (.cond (.tmp 5)
 (.seq (.ops [⟨some 2, .assign (.const (.int .i64 0)), none⟩])
 .ret)
 .skip))
 (.seq (.ops [⟨some 6, .move (.tmp 0), none⟩,
 ⟨some 7, .nilCheck (.tmp 6), none⟩,
 ⟨some 8, .fieldAddr 47 (.tmp 7) 3, none⟩,
 ⟨some 9, .fieldAddr 44 (.tmp 8) 0, none⟩,
 ⟨some 10, .load 42 (.tmp 9), none⟩,
 ⟨some 11, .convert 42 2 (.tmp 10), none⟩,
 ⟨some 2, .assign (.tmp 11), none⟩])
 .ret)))
theorem ir15_eq : (Try.f15.body.map low, Try.f15.ntmps, Try.f15.results.toList) = (some ir15, 12, [.tmp 2]) := by kernel_rfl
def ir16 : LC := (.seq (.ops [⟨some 2, .assign (.const (.slice none 0 0)), none⟩])
 (.seq (.seq (.ops [⟨some 3, .move (.tmp 0), none⟩,
 ⟨some 4, .call ⟨.value (.func 39), #[.tmp 3], #[32]⟩, none⟩,
 ⟨some 5, .unOp .not 4 (.tmp 4), none⟩])
 (.cond (.tmp 5)
 (.seq (.ops [⟨some 2, .assign (.const (.slice none 0 0)), none⟩])
 .ret)
 .skip))
 (.seq (.ops [⟨some 6, .move (.tmp 0), none⟩,
 ⟨some 7, .nilCheck (.tmp 6), none⟩,
 ⟨some 8, .fieldAddr 47 (.tmp 7) 7, none⟩,
 ⟨some 9, .load 22 (.tmp 8), none⟩,
 ⟨some 10, .call ⟨.value (.func 42), #[.tmp 9], #[22]⟩, none⟩,
 ⟨some 2, .assign (.tmp 10), none⟩])
 .ret)))
theorem ir16_eq : (Try.f16.body.map low, Try.f16.ntmps, Try.f16.results.toList) = (some ir16, 11, [.tmp 2]) := by kernel_rfl
def ir17 : LC := (.seq (.ops [⟨some 2, .assign (.const (.int .i64 0)), none⟩])
 (.seq (.seq (.ops [⟨some 3, .move (.tmp 0), none⟩,
 ⟨some 4, .call ⟨.value (.func 39), #[.tmp 3], #[32]⟩, none⟩,
 ⟨some 5, .unOp .not 4 (.tmp 4), none⟩])
 (.cond (.tmp 5)
 (.seq (.ops [⟨some 2, .assign (.const (.int .i64 0)), none⟩])
 .ret)
 .skip))
 (.seq (.ops [⟨some 6, .move (.tmp 0), none⟩,
 ⟨some 7, .nilCheck (.tmp 6), none⟩,
 ⟨some 8, .fieldAddr 47 (.tmp 7) 4, none⟩,
 ⟨some 9, .load 42 (.tmp 8), none⟩,
 ⟨some 10, .convert 42 2 (.tmp 9), none⟩,
 ⟨some 11, .binOp .sub 2 (.tmp 10) (.const (.int .i64 1)) 2, none⟩,
 ⟨some 2, .assign (.tmp 11), none⟩])
 .ret)))
theorem ir17_eq : (Try.f17.body.map low, Try.f17.ntmps, Try.f17.results.toList) = (some ir17, 12, [.tmp 2]) := by kernel_rfl
def ir19 : LC := (.seq (.ops [⟨some 2, .assign (.const (.int .i64 0)), none⟩])
 (.seq (.seq (.ops [⟨some 5, .move (.tmp 0), none⟩,
 ⟨some 6, .call ⟨.value (.func 39), #[.tmp 5], #[32]⟩, none⟩,
 ⟨some 7, .unOp .not 4 (.tmp 6), none⟩])
 (.cond (.tmp 7)
 (.seq (.ops [⟨some 2, .assign (.const (.int .i64 0)), none⟩])
 .ret)
 .skip))
 (.seq (.ops [⟨some 9, .move (.tmp 0), none⟩,
 ⟨some 10, .call ⟨.value (.func 40), #[.tmp 9], #[32]⟩, none⟩,
 ⟨some 8, .move (.tmp 10), none⟩,
 ⟨some 11, .extract (.tmp 8) 0, none⟩,
 ⟨some 12, .extract (.tmp 8) 1, none⟩,
 ⟨some 3, .alloc 86, none⟩,
 ⟨none, .store 86 (.tmp 3) (.tmp 11), none⟩,
 ⟨some 4, .assign (.tmp 12), none⟩])
 (.seq (.ops [⟨some 13, .move (.tmp 4), none⟩,
 ⟨some 14, .move (.tmp 0), none⟩,
 ⟨some 15, .nilCheck (.tmp 14), none⟩,
 ⟨some 16, .fieldAddr 47 (.tmp 15) 5, none⟩,
 ⟨some 17, .load 3 (.tmp 16), none⟩,
 ⟨some 18, .binOp .sub 3 (.tmp 13) (.tmp 17) 3, none⟩,
 ⟨some 2, .assign (.tmp 18), none⟩])
 .ret))))
theorem ir19_eq : (Try.f19.body.map low, Try.f19.ntmps, Try.f19.results.toList) = (some ir19, 19, [.tmp 2]) := by kernel_rfl
noncomputable def rc28 (i : Nat) : Code × Code := (((Try.f28.body.map rangesOf).getD [])[i]?).getD (.skip, .skip)
noncomputable def ir28_a0 : LC := (.seq (.ops [⟨some 4, .assign (.tmp 26), none⟩])
 (.ops [⟨some 5, .assign (.tmp 27), none⟩]))
noncomputable def ir28_b0 : LC := (.block 1 (.draw [⟨some 28, .load 24 (.tmp 3), none⟩,
 ⟨some 29, .nilCheck (.tmp 28), none⟩,
 ⟨some 30, .fieldAddr 80 (.tmp 29) 1, none⟩,
 ⟨some 31, .load 78 (.tmp 30), none⟩,
 ⟨some 32, .move (.tmp 4), none⟩,
 ⟨some 33, .move (.tmp 5), none⟩,
 ⟨some 34, .call ⟨.value (.func 61), #[.tmp 33], #[77]⟩, none⟩,
 ⟨none, .mapUpdate 78 (.tmp 31) (.tmp 32) (.tmp 34), none⟩] [(0, 6), (1, 6), (2, 6), (3, 6), (4, 6)]))
theorem ir28_a0_eq : low (rc28 0).1 = ir28_a0 := by kernel_rfl
theorem ir28_b0_eq : low (rc28 0).2 = ir28_b0 := by kernel_rfl
noncomputable def ir28 : LC := (.seq (.ops [⟨some 2, .assign (.const (.pointer none)), none⟩])
 (.seq (.seq (.ops [⟨some 6, .move (.tmp 0), none⟩,
 ⟨some 7, .call ⟨.value (.func 60), #[.tmp 6], #[24]⟩, none⟩,
 ⟨some 8, .unOp .not 4 (.tmp 7), none⟩])
 (.cond (.tmp 8)
 (.seq (.ops [⟨some 2, .assign (.const (.pointer none)), none⟩])
 .ret)
 .skip))
 (.seq (.draw [⟨some 9, .move (.tmp 0), none⟩,
 ⟨some 10, .nilCheck (.tmp 9), none⟩,
 ⟨some 11, .fieldAddr 80 (.tmp 10) 0, none⟩,
 ⟨some 12, .load 77 (.tmp 11), none⟩,
 ⟨some 13, .call ⟨.value (.func 61), #[.tmp 12], #[77]⟩, none⟩,
 ⟨some 14, .makeMap 78 none, none⟩,
 ⟨some 15, .move (.tmp 0), none⟩,
 ⟨some 16, .nilCheck (.tmp 15), none⟩,
 ⟨some 17, .fieldAddr 80 (.tmp 16) 2, none⟩,
 ⟨some 18, .load 2 (.tmp 17), none⟩,
 ⟨some 19, .build 80 #[(0, .tmp 13), (1, .tmp 14), (2, .tmp 18)], none⟩,
 ⟨some 20, .box 80 (.tmp 19), none⟩,
 ⟨some 3, .alloc 24, none⟩,
 ⟨none, .store 24 (.tmp 3) (.tmp 20), none⟩] [(0, 5), (1, 5), (2, 5), (3, 5), (4, 5), (4, 6), (5, 6), (4, 7), (5, 7), (4, 8), (5, 8), (4, 9), (5, 9), (0, 12), (1, 12), (2, 12), (3, 12), (4, 12), (5, 12), (6, 12), (7, 12), (8, 12), (9, 12), (10, 12), (11, 12)])
 (.seq (.seq (.ops [⟨some 21, .move (.tmp 0), none⟩,
 ⟨some 22, .nilCheck (.tmp 21), none⟩,
 ⟨some 23, .fieldAddr 80 (.tmp 22) 1, none⟩,
 ⟨some 24, .load 78 (.tmp 23), none⟩,
 ⟨some 25, .call ⟨.value (.func 62), #[.tmp 24], #[78]⟩, none⟩])
 (.block 0 (.range (.tmp 25) #[26, 27] (rc28 0).1 (rc28 0).2)))
 (.seq (.ops [⟨some 35, .load 24 (.tmp 3), none⟩,
 ⟨some 2, .assign (.tmp 35), none⟩])
 .ret)))))
theorem ir28_eq : (Try.f28.body.map low, Try.f28.ntmps, Try.f28.results.toList) = (some ir28, 36, [.tmp 2]) := by kernel_rfl
def ir29 : LC := (.seq (.ops [⟨some 4, .assign (.const (.slice none 0 0)), none⟩,
 ⟨some 5, .assign (.const (.int .i64 0)), none⟩])
 (.seq (.seq (.ops [⟨some 8, .move (.tmp 0), none⟩,
 ⟨some 9, .move (.tmp 1), none⟩,
 ⟨some 10, .call ⟨.value (.func 63), #[.tmp 8, .tmp 9], #[24, 3]⟩, none⟩,
 ⟨some 6, .assign (.tmp 10), none⟩])
 (.seq (.ops [⟨some 11, .move (.tmp 6), none⟩,
 ⟨some 12, .binOp .neq 25 (.tmp 11) (.const (.int .i64 0)) 25, none⟩])
 (.cond (.tmp 12)
 (.seq (.ops [⟨some 13, .move (.tmp 6), none⟩,
 ⟨some 4, .assign (.const (.slice none 0 0)), none⟩,
 ⟨some 5, .assign (.tmp 13), none⟩])
 .ret)
 .skip)))
 (.seq (.ops [⟨some 14, .move (.tmp 0), none⟩,
 ⟨some 15, .move (.tmp 1), none⟩,
 ⟨some 16, .call ⟨.value (.func 64), #[.tmp 14, .tmp 15], #[24, 3]⟩, none⟩,
 ⟨some 7, .alloc 101, none⟩,
 ⟨none, .store 101 (.tmp 7) (.tmp 16), none⟩])
 (.seq (.ops [⟨some 17, .slice 101 (.tmp 7) none none none, none⟩,
 ⟨some 4, .assign (.tmp 17), none⟩,
 ⟨some 5, .assign (.const (.int .i64 0)), none⟩])
 .ret))))
theorem ir29_eq : (Try.f29.body.map low, Try.f29.ntmps, Try.f29.results.toList) = (some ir29, 18, [.tmp 4, .tmp 5]) := by kernel_rfl
def ir30 : LC := (.seq (.ops [⟨some 6, .assign (.const (.int .i64 0)), none⟩])
 (.seq (.seq (.ops [⟨some 8, .move (.tmp 0), none⟩,
 ⟨some 9, .move (.tmp 1), none⟩,
 ⟨some 10, .call ⟨.value (.func 63), #[.tmp 8, .tmp 9], #[24, 3]⟩, none⟩,
 ⟨some 7, .assign (.tmp 10), none⟩])
 (.seq (.ops [⟨some 11, .move (.tmp 7), none⟩,
 ⟨some 12, .binOp .neq 25 (.tmp 11) (.const (.int .i64 0)) 25, none⟩])
 (.cond (.tmp 12)
 (.seq (.ops [⟨some 13, .move (.tmp 7), none⟩,
 ⟨some 6, .assign (.tmp 13), none⟩])
 .ret)
 .skip)))
 (.seq (.seq (.ops [⟨some 14, .move (.tmp 2), none⟩,
 ⟨some 15, .call ⟨.builtin .len, #[.tmp 14], #[22]⟩, none⟩,
 ⟨some 16, .binOp .neq 3 (.tmp 15) (.const (.int .i64 128)) 3, none⟩])
 (.cond (.tmp 16)
 (.seq (.ops [⟨some 6, .assign (.const (.int .i64 2)), none⟩])
 .ret)
 .skip))
 (.seq (.draw [⟨some 17, .move (.tmp 0), none⟩,
 ⟨some 18, .nilCheck (.tmp 17), none⟩,
 ⟨some 19, .fieldAddr 80 (.tmp 18) 1, none⟩,
 ⟨some 20, .load 78 (.tmp 19), none⟩,
 ⟨some 21, .move (.tmp 1), none⟩,
 ⟨some 22, .move (.tmp 0), none⟩,
 ⟨some 23, .nilCheck (.tmp 22), none⟩,
 ⟨some 24, .fieldAddr 80 (.tmp 23) 1, none⟩,
 ⟨some 25, .load 78 (.tmp 24), none⟩,
 ⟨some 26, .move (.tmp 1), none⟩,
 ⟨some 27, .lookup 78 (.tmp 25) (.tmp 26) false, none⟩,
 ⟨some 28, .move (.tmp 2), none⟩,
 ⟨some 29, .sliceToArrayPointer 101 (.tmp 28), none⟩,
 ⟨some 30, .load 101 (.tmp 29), none⟩,
 ⟨some 31, .buildSlice 77 1 #[(0, .tmp 30)], none⟩,
 ⟨some 32, .call ⟨.builtin .append, #[.tmp 27, .tmp 31], #[77, 77]⟩, none⟩,
 ⟨none, .mapUpdate 78 (.tmp 20) (.tmp 21) (.tmp 32), none⟩] [(0, 14), (1, 14), (2, 14), (3, 14), (4, 14), (5, 14), (6, 14), (7, 14), (8, 14), (9, 14), (10, 14), (0, 15), (1, 15), (2, 15), (3, 15), (4, 15)])
 (.seq (.ops [⟨some 33, .move (.tmp 0), none⟩,
 ⟨some 34, .nilCheck (.tmp 33), none⟩,
 ⟨some 35, .fieldAddr 80 (.tmp 34) 2, none⟩,
 ⟨some 36, .load 2 (.tmp 35), none⟩,
 ⟨some 37, .binOp .add 2 (.tmp 36) (.const (.int .i64 1)) 2, none⟩,
 ⟨some 38, .nilCheck (.tmp 33), none⟩,
 ⟨some 39, .fieldAddr 80 (.tmp 38) 2, none⟩,
 ⟨none, .store 2 (.tmp 39) (.tmp 37), none⟩])
 (.seq (.ops [⟨some 6, .assign (.const (.int .i64 0)), none⟩])
 .ret))))))
theorem ir30_eq : (Try.f30.body.map low, Try.f30.ntmps, Try.f30.results.toList) = (some ir30, 40, [.tmp 6]) := by kernel_rfl
def ir33 : LC := (.seq (.ops [⟨some 6, .assign (.const (.pointer none)), none⟩,
 ⟨some 7, .assign (.const (.int .i64 0)), none⟩])
 (.seq (.block 0 (.seq (.ops [⟨some 9, .move (.tmp 0), none⟩,
 ⟨some 10, .call ⟨.value (.func 28), #[.tmp 9], #[24]⟩, none⟩,
 ⟨some 11, .binOp .eql 24 (.tmp 10) (.const (.pointer none)) 24, none⟩,
 ⟨some 8, .assign (.tmp 11), none⟩])
 (.cond (.tmp 8)
 (.seq (.ops [⟨some 6, .assign (.const (.pointer none)), none⟩,
 ⟨some 7, .assign (.const (.int .i64 1)), none⟩])
 .ret)
 (.seq (.ops [⟨some 13, .move (.tmp 2), none⟩,
 ⟨some 14, .binOp .lss 3 (.tmp 13) (.const (.int .i64 16)) 3, none⟩,
 ⟨some 15, .move (.tmp 14), none⟩,
 ⟨some 16, .move (.tmp 2), some (15, false)⟩,
 ⟨some 17, .binOp .gtr 3 (.tmp 16) (.const (.int .i64 4096)) 3, some (15, false)⟩,
 ⟨some 18, .pick (.tmp 15) (.const (.bool true)) (.tmp 17), none⟩,
 ⟨some 19, .move (.tmp 18), none⟩,
 ⟨some 20, .move (.tmp 1), some (19, false)⟩,
 ⟨some 21, .binOp .lss 3 (.tmp 20) (.const (.int .i64 0)) 3, some (19, false)⟩,
 ⟨some 22, .pick (.tmp 19) (.const (.bool true)) (.tmp 21), none⟩,
 ⟨some 23, .move (.tmp 22), none⟩,
 ⟨some 24, .move (.tmp 1), some (23, false)⟩,
 ⟨some 25, .move (.tmp 0), some (23, false)⟩,
 ⟨some 26, .call ⟨.value (.func 58), #[.tmp 25], #[24]⟩, some (23, false)⟩,
 ⟨some 27, .move (.tmp 2), some (23, false)⟩,
 ⟨some 28, .binOp .sub 3 (.tmp 26) (.tmp 27) 3, some (23, false)⟩,
 ⟨some 29, .binOp .gtr 3 (.tmp 24) (.tmp 28) 3, some (23, false)⟩,
 ⟨some 30, .pick (.tmp 23) (.const (.bool true)) (.tmp 29), none⟩,
 ⟨some 12, .assign (.tmp 30), none⟩])
 (.cond (.tmp 12)
 (.seq (.ops [⟨some 6, .assign (.const (.pointer none)), none⟩,
 ⟨some 7, .assign (.const (.int .i64 2)), none⟩])
 .ret)
 .skip)))))
 (.seq (.ops [⟨some 31, .move (.tmp 0), none⟩,
 ⟨some 32, .move (.tmp 1), none⟩,
 ⟨some 33, .move (.tmp 2), none⟩,
 ⟨some 34, .build 47 #[(0, .tmp 31), (1, .tmp 32), (2, .tmp 33)], none⟩,
 ⟨some 35, .box 47 (.tmp 34), none⟩,
 ⟨some 6, .assign (.tmp 35), none⟩,
 ⟨some 7, .assign (.const (.int .i64 0)), none⟩])
 .ret)))
theorem ir33_eq : (Try.f33.body.map low, Try.f33.ntmps, Try.f33.results.toList) = (some ir33, 36, [.tmp 6, .tmp 7]) := by kernel_rfl
def ir34_l0 : LC := (.seq (.ops [⟨some 19, .binOp .lss 3 (.tmp 18) (.const (.int .i64 2)) 3, none⟩])
 (.seq (.cond (.tmp 19)
 .skip
 (.exit 0))
 (.seq (.block 1 (.seq (.ops [⟨some 20, .move (.tmp 18), none⟩,
 ⟨some 7, .assign (.tmp 20), none⟩])
 (.seq (.draw [⟨some 22, .move (.tmp 0), none⟩,
 ⟨some 23, .nilCheck (.tmp 22), none⟩,
 ⟨some 24, .fieldAddr 47 (.tmp 23) 0, none⟩,
 ⟨some 25, .load 24 (.tmp 24), none⟩,
 ⟨some 26, .move (.tmp 0), none⟩,
 ⟨some 27, .nilCheck (.tmp 26), none⟩,
 ⟨some 28, .fieldAddr 47 (.tmp 27) 1, none⟩,
 ⟨some 29, .load 3 (.tmp 28), none⟩,
 ⟨some 30, .move (.tmp 7), none⟩,
 ⟨some 31, .binOp .add 3 (.tmp 29) (.tmp 30) 3, none⟩,
 ⟨some 32, .call ⟨.value (.func 29), #[.tmp 25, .tmp 31], #[24, 3]⟩, none⟩,
 ⟨some 21, .move (.tmp 32), none⟩,
 ⟨some 33, .extract (.tmp 21) 0, none⟩,
 ⟨some 34, .extract (.tmp 21) 1, none⟩,
 ⟨some 8, .assign (.tmp 33), none⟩,
 ⟨some 9, .assign (.tmp 34), none⟩] [])
 (.seq (.seq (.ops [⟨some 35, .move (.tmp 8), none⟩,
 ⟨some 36, .call ⟨.value (.func 37), #[.const (.slice none 0 0)], #[22]⟩, none⟩,
 ⟨some 37, .call ⟨.value (.func 67), #[.tmp 35, .tmp 36], #[22, 22]⟩, none⟩])
 (.cond (.tmp 37)
 (.exit 1)
 .skip))
 (.seq (.ops [⟨some 39, .move (.tmp 8), none⟩,
 ⟨some 40, .call ⟨.value (.func 68), #[.tmp 39], #[22]⟩, none⟩,
 ⟨some 38, .move (.tmp 40), none⟩,
 ⟨some 41, .extract (.tmp 38) 0, none⟩,
 ⟨some 42, .extract (.tmp 38) 1, none⟩,
 ⟨some 10, .alloc 44, none⟩,
 ⟨none, .store 44 (.tmp 10) (.tmp 41), none⟩,
 ⟨some 11, .assign (.tmp 42), none⟩])
 (.seq (.seq (.ops [⟨some 43, .move (.tmp 11), none⟩,
 ⟨some 44, .unOp .not 4 (.tmp 43), none⟩,
 ⟨some 45, .move (.tmp 44), none⟩,
 ⟨some 46, .fieldAddr 44 (.tmp 10) 0, some (45, false)⟩,
 ⟨some 47, .load 42 (.tmp 46), some (45, false)⟩,
 ⟨some 48, .binOp .rem 42 (.tmp 47) (.const (.int .u64 2)) 42, some (45, false)⟩,
 ⟨some 49, .move (.tmp 7), some (45, false)⟩,
 ⟨some 50, .convert 3 42 (.tmp 49), some (45, false)⟩,
 ⟨some 51, .binOp .neq 42 (.tmp 48) (.tmp 50) 42, some (45, false)⟩,
 ⟨some 52, .pick (.tmp 45) (.const (.bool true)) (.tmp 51), none⟩,
 ⟨some 53, .move (.tmp 52), none⟩,
 ⟨some 54, .fieldAddr 44 (.tmp 10) 0, some (53, false)⟩,
 ⟨some 55, .load 42 (.tmp 54), some (53, false)⟩,
 ⟨some 56, .binOp .eql 42 (.tmp 55) (.const (.int .u64 0)) 42, some (53, false)⟩,
 ⟨some 57, .pick (.tmp 53) (.const (.bool true)) (.tmp 56), none⟩,
 ⟨some 58, .move (.tmp 57), none⟩,
 ⟨some 59, .fieldAddr 44 (.tmp 10) 3, some (58, false)⟩,
 ⟨some 60, .load 42 (.tmp 59), some (58, false)⟩,
 ⟨some 61, .move (.tmp 6), some (58, false)⟩,
 ⟨some 62, .binOp .mul 3 (.tmp 61) (.const (.int .i64 120)) 3, some (58, false)⟩,
 ⟨some 63, .convert 3 42 (.tmp 62), some (58, false)⟩,
 ⟨some 64, .binOp .gtr 42 (.tmp 60) (.tmp 63) 42, some (58, false)⟩,
 ⟨some 65, .pick (.tmp 58) (.const (.bool true)) (.tmp 64), none⟩,
 ⟨some 66, .move (.tmp 65), none⟩,
 ⟨some 67, .fieldAddr 44 (.tmp 10) 0, some (66, false)⟩,
 ⟨some 68, .load 42 (.tmp 67), some (66, false)⟩,
 ⟨some 69, .binOp .gtr 42 (.tmp 68) (.const (.int .u64 4611686018427387904)) 42, some (66, false)⟩,
 ⟨some 70, .pick (.tmp 66) (.const (.bool true)) (.tmp 69), none⟩,
 ⟨some 71, .move (.tmp 70), none⟩,
 ⟨some 72, .fieldAddr 44 (.tmp 10) 4, some (71, false)⟩,
 ⟨some 73, .load 42 (.tmp 72), some (71, false)⟩,
 ⟨some 74, .binOp .gtr 42 (.tmp 73) (.const (.int .u64 4611686018427387904)) 42, some (71, false)⟩,
 ⟨some 75, .pick (.tmp 71) (.const (.bool true)) (.tmp 74), none⟩])
 (.cond (.tmp 75)
 (.seq (.ops [⟨some 76, .build 44 #[], none⟩,
 ⟨none, .store 44 (.tmp 2) (.tmp 76), none⟩,
 ⟨some 3, .assign (.const (.bool false)), none⟩])
 .ret)
 .skip))
 (.seq (.ops [⟨some 77, .fieldAddr 44 (.tmp 10) 0, none⟩,
 ⟨some 78, .load 42 (.tmp 77), none⟩,
 ⟨some 79, .fieldAddr 44 (.tmp 4) 0, none⟩,
 ⟨some 80, .load 42 (.tmp 79), none⟩,
 ⟨some 81, .binOp .gtr 42 (.tmp 78) (.tmp 80) 42, none⟩])
 (.cond (.tmp 81)
 (.ops [⟨some 82, .load 44 (.tmp 10), none⟩,
 ⟨none, .store 44 (.tmp 4) (.tmp 82), none⟩])
 .skip))))))))
 (.ops [⟨some 83, .binOp .add 3 (.tmp 18) (.const (.int .i64 1)) 3, none⟩,
 ⟨some 18, .move (.tmp 83), none⟩]))))
def ir34 : LC := (.seq (.ops [⟨some 2, .alloc 44, none⟩,
 ⟨some 3, .assign (.const (.bool false)), none⟩])
 (.seq (.ops [⟨some 12, .build 44 #[(4, .const (.int .u64 1))], none⟩,
 ⟨some 4, .alloc 44, none⟩,
 ⟨none, .store 44 (.tmp 4) (.tmp 12), none⟩])
 (.seq (.ops [⟨some 14, .move (.tmp 0), none⟩,
 ⟨some 15, .call ⟨.value (.func 40), #[.tmp 14], #[32]⟩, none⟩,
 ⟨some 13, .move (.tmp 15), none⟩,
 ⟨some 16, .extract (.tmp 13) 0, none⟩,
 ⟨some 17, .extract (.tmp 13) 1, none⟩,
 ⟨some 5, .alloc 86, none⟩,
 ⟨none, .store 86 (.tmp 5) (.tmp 16), none⟩,
 ⟨some 6, .assign (.tmp 17), none⟩])
 (.seq (.seq (.ops [⟨some 18, .move (.const (.int .i64 0)), none⟩])
 (.block 0 (.loop ir34_l0)))
 (.seq (.ops [⟨some 84, .load 44 (.tmp 4), none⟩,
 ⟨none, .store 44 (.tmp 2) (.tmp 84), none⟩,
 ⟨some 3, .assign (.const (.bool true)), none⟩])
 .ret)))))
theorem ir34_eq : (Try.f34.body.map low, Try.f34.ntmps, Try.f34.results.toList) = (some ir34, 85, [.cell 2 44, .tmp 3]) := by kernel_rfl
noncomputable def rc35 (i : Nat) : Code × Code := (((Try.f35.body.map rangesOf).getD [])[i]?).getD (.skip, .skip)
noncomputable def ir35_l0 : LC := (.seq (.ops [⟨some 26, .binOp .lss 3 (.tmp 25) (.tmp 24) 3, none⟩])
 (.seq (.cond (.tmp 26)
 .skip
 (.exit 0))
 (.seq (.block 1 (.seq (.ops [⟨some 27, .move (.tmp 25), none⟩,
 ⟨some 5, .assign (.tmp 27), none⟩])
 (.seq (.draw [⟨some 29, .load 32 (.tmp 1), none⟩,
 ⟨some 30, .nilCheck (.tmp 29), none⟩,
 ⟨some 31, .fieldAddr 47 (.tmp 30) 0, none⟩,
 ⟨some 32, .load 24 (.tmp 31), none⟩,
 ⟨some 33, .load 32 (.tmp 1), none⟩,
 ⟨some 34, .nilCheck (.tmp 33), none⟩,
 ⟨some 35, .fieldAddr 47 (.tmp 34) 3, none⟩,
 ⟨some 36, .fieldAddr 44 (.tmp 35) 2, none⟩,
 ⟨some 37, .load 42 (.tmp 36), none⟩,
 ⟨some 38, .indexAddr 86 (.tmp 2) (.tmp 37), none⟩,
 ⟨some 39, .load 3 (.tmp 38), none⟩,
 ⟨some 40, .move (.tmp 5), none⟩,
 ⟨some 41, .binOp .add 3 (.tmp 39) (.tmp 40) 3, none⟩,
 ⟨some 42, .call ⟨.value (.func 29), #[.tmp 32, .tmp 41], #[24, 3]⟩, none⟩,
 ⟨some 28, .move (.tmp 42), none⟩,
 ⟨some 43, .extract (.tmp 28) 0, none⟩,
 ⟨some 44, .extract (.tmp 28) 1, none⟩,
 ⟨some 6, .assign (.tmp 43), none⟩,
 ⟨some 7, .assign (.tmp 44), none⟩] [])
 (.ops [⟨some 45, .move (.tmp 4), none⟩,
 ⟨some 46, .move (.tmp 6), none⟩,
 ⟨some 47, .slice 22 (.tmp 46) (some (.const (.int .i64 8))) none none, none⟩,
 ⟨some 48, .call ⟨.builtin .append, #[.tmp 45, .tmp 47], #[22, 22]⟩, none⟩,
 ⟨some 4, .assign (.tmp 48), none⟩]))))
 (.ops [⟨some 49, .binOp .add 3 (.tmp 25) (.const (.int .i64 1)) 3, none⟩,
 ⟨some 25, .move (.tmp 49), none⟩]))))
noncomputable def ir35_a0 : LC := (.seq (.ops [⟨some 11, .alloc 90, none⟩,
 ⟨none, .store 90 (.tmp 11) (.tmp 103), none⟩])
 (.ops [⟨some 12, .assign (.tmp 104), none⟩]))
noncomputable def ir35_b0 : LC := (.block 3 (.seq (.block 4 (.seq (.ops [⟨some 106, .fieldAddr 90 (.tmp 11) 0, none⟩,
 ⟨some 107, .load 42 (.tmp 106), none⟩,
 ⟨some 108, .fieldAddr 90 (.tmp 8) 0, none⟩,
 ⟨some 109, .load 42 (.tmp 108), none⟩,
 ⟨some 110, .binOp .neq 42 (.tmp 107) (.tmp 109) 42, none⟩,
 ⟨some 111, .move (.tmp 110), none⟩,
 ⟨some 112, .fieldAddr 90 (.tmp 11) 2, some (111, false)⟩,
 ⟨some 113, .load 5 (.tmp 112), some (111, false)⟩,
 ⟨some 114, .fieldAddr 90 (.tmp 8) 2, some (111, false)⟩,
 ⟨some 115, .load 5 (.tmp 114), some (111, false)⟩,
 ⟨some 116, .binOp .neq 5 (.tmp 113) (.tmp 115) 5, some (111, false)⟩,
 ⟨some 117, .pick (.tmp 111) (.const (.bool true)) (.tmp 116), none⟩,
 ⟨some 105, .assign (.tmp 117), none⟩])
 (.cond (.tmp 105)
 (.exit 2)
 (.seq (.draw [⟨some 119, .fieldAddr 90 (.tmp 11) 2, none⟩,
 ⟨some 120, .load 5 (.tmp 119), none⟩,
 ⟨some 121, .binOp .eql 5 (.tmp 120) (.const (.int .u8 0)) 5, none⟩,
 ⟨some 122, .move (.tmp 121), none⟩,
 ⟨some 123, .fieldAddr 90 (.tmp 11) 1, some (122, true)⟩,
 ⟨some 124, .load 42 (.tmp 123), some (122, true)⟩,
 ⟨some 125, .fieldAddr 90 (.tmp 8) 1, some (122, true)⟩,
 ⟨some 126, .load 42 (.tmp 125), some (122, true)⟩,
 ⟨some 127, .binOp .lss 42 (.tmp 124) (.tmp 126) 42, some (122, true)⟩,
 ⟨some 128, .move (.tmp 127), some (122, true)⟩,
 ⟨some 129, .fieldAddr 90 (.tmp 11) 1, some (128, false)⟩,
 ⟨some 130, .load 42 (.tmp 129), some (128, false)⟩,
 ⟨some 131, .load 32 (.tmp 1), some (128, false)⟩,
 ⟨some 132, .nilCheck (.tmp 131), some (128, false)⟩,
 ⟨some 133, .fieldAddr 47 (.tmp 132) 3, some (128, false)⟩,
 ⟨some 134, .fieldAddr 44 (.tmp 133) 0, some (128, false)⟩,
 ⟨some 135, .load 42 (.tmp 134), some (128, false)⟩,
 ⟨some 136, .binOp .gtr 42 (.tmp 130) (.tmp 135) 42, some (128, false)⟩,
 ⟨some 137, .pick (.tmp 128) (.const (.bool true)) (.tmp 136), some (122, true)⟩,
 ⟨some 138, .pick (.tmp 122) (.tmp 137) (.const (.bool false)), none⟩,
 ⟨some 118, .assign (.tmp 138), none⟩] [])
 (.cond (.tmp 118)
 (.exit 2)
 (.seq (.ops [⟨some 140, .fieldAddr 90 (.tmp 11) 2, none⟩,
 ⟨some 141, .load 5 (.tmp 140), none⟩,
 ⟨some 142, .binOp .gtr 5 (.tmp 141) (.const (.int .u8 0)) 5, none⟩,
 ⟨some 143, .move (.tmp 142), none⟩,
 ⟨some 144, .fieldAddr 90 (.tmp 11) 1, some (143, true)⟩,
 ⟨some 145, .load 42 (.tmp 144), some (143, true)⟩,
 ⟨some 146, .fieldAddr 90 (.tmp 8) 1, some (143, true)⟩,
 ⟨some 147, .load 42 (.tmp 146), some (143, true)⟩,
 ⟨some 148, .binOp .neq 42 (.tmp 145) (.tmp 147) 42, some (143, true)⟩,
 ⟨some 149, .move (.tmp 148), some (143, true)⟩,
 ⟨some 150, .fieldAddr 90 (.tmp 11) 3, some (149, false)⟩,
 ⟨some 151, .load 5 (.tmp 150), some (149, false)⟩,
 ⟨some 152, .fieldAddr 90 (.tmp 8) 3, some (149, false)⟩,
 ⟨some 153, .load 5 (.tmp 152), some (149, false)⟩,
 ⟨some 154, .binOp .neq 5 (.tmp 151) (.tmp 153) 5, some (149, false)⟩,
 ⟨some 155, .pick (.tmp 149) (.const (.bool true)) (.tmp 154), some (143, true)⟩,
 ⟨some 156, .pick (.tmp 143) (.tmp 155) (.const (.bool false)), none⟩,
 ⟨some 139, .assign (.tmp 156), none⟩])
 (.cond (.tmp 139)
 (.exit 2)
 .skip)))))))
 (.seq (.ops [⟨some 157, .load 22 (.tmp 9), none⟩,
 ⟨some 158, .move (.tmp 12), none⟩,
 ⟨some 159, .call ⟨.builtin .append, #[.tmp 157, .tmp 158], #[22, 22]⟩, none⟩,
 ⟨none, .store 22 (.tmp 9) (.tmp 159), none⟩])
 (.seq (.ops [⟨some 160, .load 3 (.tmp 10), none⟩,
 ⟨some 161, .binOp .add 3 (.tmp 160) (.const (.int .i64 1)) 3, none⟩,
 ⟨none, .store 3 (.tmp 10) (.tmp 161), none⟩])
 (.seq (.ops [⟨some 162, .fieldAddr 90 (.tmp 11) 0, none⟩,
 ⟨some 163, .load 42 (.tmp 162), none⟩,
 ⟨some 164, .fieldAddr 90 (.tmp 11) 1, none⟩,
 ⟨some 165, .load 42 (.tmp 164), none⟩,
 ⟨some 166, .fieldAddr 90 (.tmp 11) 2, none⟩,
 ⟨some 167, .load 5 (.tmp 166), none⟩,
 ⟨some 168, .binOp .add 5 (.tmp 167) (.const (.int .u8 1)) 5, none⟩,
 ⟨some 169, .fieldAddr 90 (.tmp 11) 3, none⟩,
 ⟨some 170, .load 5 (.tmp 169), none⟩,
 ⟨some 171, .build 90 #[(0, .tmp 163), (1, .tmp 165), (2, .tmp 168), (3, .tmp 170)], none⟩,
 ⟨none, .store 90 (.tmp 8) (.tmp 171), none⟩])
 (.seq (.ops [⟨some 172, .fieldAddr 90 (.tmp 8) 2, none⟩,
 ⟨some 173, .load 5 (.tmp 172), none⟩,
 ⟨some 174, .fieldAddr 90 (.tmp 8) 3, none⟩,
 ⟨some 175, .load 5 (.tmp 174), none⟩,
 ⟨some 176, .binOp .eql 5 (.tmp 173) (.tmp 175) 5, none⟩])
 (.cond (.tmp 176)
 (.seq (.draw [⟨some 177, .load 32 (.tmp 1), none⟩,
 ⟨some 178, .load 32 (.tmp 1), none⟩,
 ⟨some 179, .nilCheck (.tmp 178), none⟩,
 ⟨some 180, .fieldAddr 47 (.tmp 179) 8, none⟩,
 ⟨some 181, .load 45 (.tmp 180), none⟩,
 ⟨some 182, .load 22 (.tmp 9), none⟩,
 ⟨some 183, .buildSlice 45 1 #[(0, .tmp 182)], none⟩,
 ⟨some 184, .call ⟨.builtin .append, #[.tmp 181, .tmp 183], #[45, 45]⟩, none⟩,
 ⟨some 185, .nilCheck (.tmp 177), none⟩,
 ⟨some 186, .fieldAddr 47 (.tmp 185) 8, none⟩,
 ⟨none, .store 45 (.tmp 186) (.tmp 184), none⟩] [(0, 6), (1, 6), (2, 6), (3, 6), (4, 6), (0, 7)])
 (.seq (.draw [⟨some 187, .load 32 (.tmp 1), none⟩,
 ⟨some 188, .load 32 (.tmp 1), none⟩,
 ⟨some 189, .load 32 (.tmp 1), none⟩,
 ⟨some 190, .nilCheck (.tmp 189), none⟩,
 ⟨some 191, .fieldAddr 47 (.tmp 190) 5, none⟩,
 ⟨some 192, .load 3 (.tmp 191), none⟩,
 ⟨some 193, .load 3 (.tmp 10), none⟩,
 ⟨some 194, .binOp .add 3 (.tmp 192) (.tmp 193) 3, none⟩,
 ⟨some 195, .load 32 (.tmp 1), none⟩,
 ⟨some 196, .nilCheck (.tmp 195), none⟩,
 ⟨some 197, .fieldAddr 47 (.tmp 196) 4, none⟩,
 ⟨some 198, .load 42 (.tmp 197), none⟩,
 ⟨some 199, .binOp .add 42 (.tmp 198) (.const (.int .u64 1)) 42, none⟩,
 ⟨some 200, .nilCheck (.tmp 187), none⟩,
 ⟨some 201, .fieldAddr 47 (.tmp 200) 5, none⟩,
 ⟨none, .store 3 (.tmp 201) (.tmp 194), none⟩,
 ⟨some 202, .nilCheck (.tmp 188), none⟩,
 ⟨some 203, .fieldAddr 47 (.tmp 202) 4, none⟩,
 ⟨none, .store 42 (.tmp 203) (.tmp 199), none⟩] [(1, 15), (12, 15)])
 (.seq (.draw [⟨some 204, .load 32 (.tmp 1), none⟩,
 ⟨some 205, .nilCheck (.tmp 204), none⟩,
 ⟨some 206, .fieldAddr 47 (.tmp 205) 4, none⟩,
 ⟨some 207, .load 42 (.tmp 206), none⟩,
 ⟨some 208, .fieldAddr 90 (.tmp 11) 1, none⟩,
 ⟨some 209, .load 42 (.tmp 208), none⟩,
 ⟨some 210, .build 90 #[(0, .tmp 207), (1, .tmp 209)], none⟩,
 ⟨none, .store 90 (.tmp 8) (.tmp 210), none⟩] [])
 (.ops [⟨none, .store 22 (.tmp 9) (.const (.slice none 0 0)), none⟩,
 ⟨none, .store 3 (.tmp 10) (.const (.int .i64 0)), none⟩]))))
 .skip)))))))
theorem ir35_a0_eq : low (rc35 0).1 = ir35_a0 := by kernel_rfl
theorem ir35_b0_eq : low (rc35 0).2 = ir35_b0 := by kernel_rfl
noncomputable def ir35 : LC := (.seq (.ops [⟨some 1, .box 32 (.tmp 0), none⟩])
 (.seq (.ops [⟨some 14, .load 32 (.tmp 1), none⟩,
 ⟨some 15, .call ⟨.value (.func 40), #[.tmp 14], #[32]⟩, none⟩,
 ⟨some 13, .move (.tmp 15), none⟩,
 ⟨some 16, .extract (.tmp 13) 0, none⟩,
 ⟨some 17, .extract (.tmp 13) 1, none⟩,
 ⟨some 2, .alloc 86, none⟩,
 ⟨none, .store 86 (.tmp 2) (.tmp 16), none⟩,
 ⟨some 3, .assign (.tmp 17), none⟩])
 (.seq (.ops [⟨some 4, .assign (.const (.slice none 0 0)), none⟩])
 (.seq (.seq (.ops [⟨some 18, .load 32 (.tmp 1), none⟩,
 ⟨some 19, .nilCheck (.tmp 18), none⟩,
 ⟨some 20, .fieldAddr 47 (.tmp 19) 3, none⟩,
 ⟨some 21, .fieldAddr 44 (.tmp 20) 3, none⟩,
 ⟨some 22, .load 42 (.tmp 21), none⟩,
 ⟨some 23, .convert 42 3 (.tmp 22), none⟩,
 ⟨some 24, .call ⟨.value (.func 69), #[.tmp 23], #[3]⟩, none⟩,
 ⟨some 25, .move (.const (.int .i64 0)), none⟩])
 (.block 0 (.loop ir35_l0)))
 (.seq (.draw [⟨some 50, .load 32 (.tmp 1), none⟩,
 ⟨some 51, .move (.tmp 4), none⟩,
 ⟨some 52, .load 32 (.tmp 1), none⟩,
 ⟨some 53, .nilCheck (.tmp 52), none⟩,
 ⟨some 54, .fieldAddr 47 (.tmp 53) 3, none⟩,
 ⟨some 55, .fieldAddr 44 (.tmp 54) 3, none⟩,
 ⟨some 56, .load 42 (.tmp 55), none⟩,
 ⟨some 57, .load 32 (.tmp 1), none⟩,
 ⟨some 58, .nilCheck (.tmp 57), none⟩,
 ⟨some 59, .fieldAddr 47 (.tmp 58) 3, none⟩,
 ⟨some 60, .fieldAddr 44 (.tmp 59) 3, none⟩,
 ⟨some 61, .load 42 (.tmp 60), none⟩,
 ⟨some 62, .slice 22 (.tmp 51) none (some (.tmp 56)) (some (.tmp 61)), none⟩,
 ⟨some 63, .nilCheck (.tmp 50), none⟩,
 ⟨some 64, .fieldAddr 47 (.tmp 63) 7, none⟩,
 ⟨none, .store 22 (.tmp 64) (.tmp 62), none⟩] [])
 (.seq (.draw [⟨some 65, .load 32 (.tmp 1), none⟩,
 ⟨some 66, .load 32 (.tmp 1), none⟩,
 ⟨some 67, .load 32 (.tmp 1), none⟩,
 ⟨some 68, .load 32 (.tmp 1), none⟩,
 ⟨some 69, .nilCheck (.tmp 68), none⟩,
 ⟨some 70, .fieldAddr 47 (.tmp 69) 3, none⟩,
 ⟨some 71, .fieldAddr 44 (.tmp 70) 3, none⟩,
 ⟨some 72, .load 42 (.tmp 71), none⟩,
 ⟨some 73, .convert 42 3 (.tmp 72), none⟩,
 ⟨some 74, .call ⟨.value (.func 69), #[.tmp 73], #[3]⟩, none⟩,
 ⟨some 75, .load 32 (.tmp 1), none⟩,
 ⟨some 76, .nilCheck (.tmp 75), none⟩,
 ⟨some 77, .fieldAddr 47 (.tmp 76) 3, none⟩,
 ⟨some 78, .fieldAddr 44 (.tmp 77) 4, none⟩,
 ⟨some 79, .load 42 (.tmp 78), none⟩,
 ⟨some 80, .nilCheck (.tmp 65), none⟩,
 ⟨some 81, .fieldAddr 47 (.tmp 80) 5, none⟩,
 ⟨none, .store 3 (.tmp 81) (.tmp 74), none⟩,
 ⟨some 82, .nilCheck (.tmp 66), none⟩,
 ⟨some 83, .fieldAddr 47 (.tmp 82) 4, none⟩,
 ⟨none, .store 42 (.tmp 83) (.tmp 79), none⟩,
 ⟨some 84, .nilCheck (.tmp 67), none⟩,
 ⟨some 85, .fieldAddr 47 (.tmp 84) 8, none⟩,
 ⟨none, .store 45 (.tmp 85) (.const (.slice none 0 0)), none⟩] [(0, 9), (1, 9), (2, 9), (9, 10), (9, 11), (9, 12), (9, 13), (9, 14), (1, 17), (2, 17), (2, 20)])
 (.seq (.draw [⟨some 86, .load 32 (.tmp 1), none⟩,
 ⟨some 87, .nilCheck (.tmp 86), none⟩,
 ⟨some 88, .fieldAddr 47 (.tmp 87) 3, none⟩,
 ⟨some 89, .fieldAddr 44 (.tmp 88) 4, none⟩,
 ⟨some 90, .load 42 (.tmp 89), none⟩,
 ⟨some 91, .load 32 (.tmp 1), none⟩,
 ⟨some 92, .nilCheck (.tmp 91), none⟩,
 ⟨some 93, .fieldAddr 47 (.tmp 92) 3, none⟩,
 ⟨some 94, .fieldAddr 44 (.tmp 93) 1, none⟩,
 ⟨some 95, .load 42 (.tmp 94), none⟩,
 ⟨some 96, .build 90 #[(0, .tmp 90), (1, .tmp 95)], none⟩,
 ⟨some 8, .alloc 90, none⟩,
 ⟨none, .store 90 (.tmp 8) (.tmp 96), none⟩] [(0, 11), (1, 11), (2, 11), (3, 11), (4, 11), (5, 11), (6, 11), (7, 11), (8, 11), (9, 11), (10, 11)])
 (.seq (.ops [⟨some 9, .alloc 22, none⟩])
 (.seq (.ops [⟨some 10, .alloc 3, none⟩,
 ⟨none, .store 3 (.tmp 10) (.const (.int .i64 0)), none⟩])
 (.seq .skip
 (.seq (.draw [⟨some 97, .load 32 (.tmp 1), none⟩,
 ⟨some 98, .load 32 (.tmp 1), none⟩,
 ⟨some 99, .nilCheck (.tmp 98), none⟩,
 ⟨some 100, .fieldAddr 47 (.tmp 99) 5, none⟩,
 ⟨some 101, .load 3 (.tmp 100), none⟩,
 ⟨some 102, .call ⟨.value (.func 70), #[.tmp 97, .tmp 101], #[32, 3]⟩, none⟩] [])
 (.block 2 (.range (.tmp 102) #[103, 104] (rc35 0).1 (rc35 0).2)))))))))))))
theorem ir35_eq : (Try.f35.body.map low, Try.f35.ntmps, Try.f35.results.toList) = (some ir35, 211, []) := by kernel_rfl
def ir36 : LC := (.seq (.ops [⟨some 3, .box 44 (.tmp 1), none⟩])
 (.seq (.draw [⟨some 5, .move (.tmp 0), none⟩,
 ⟨some 6, .nilCheck (.tmp 5), none⟩,
 ⟨some 7, .fieldAddr 47 (.tmp 6) 1, none⟩,
 ⟨some 8, .load 3 (.tmp 7), none⟩,
 ⟨some 9, .fieldAddr 44 (.tmp 3) 0, none⟩,
 ⟨some 10, .load 42 (.tmp 9), none⟩,
 ⟨some 11, .binOp .rem 42 (.tmp 10) (.const (.int .u64 2)) 42, none⟩,
 ⟨some 12, .convert 42 3 (.tmp 11), none⟩,
 ⟨some 13, .binOp .add 3 (.tmp 8) (.tmp 12) 3, none⟩,
 ⟨some 4, .assign (.tmp 13), none⟩] [])
 (.seq (.draw [⟨some 14, .move (.tmp 0), none⟩,
 ⟨some 15, .nilCheck (.tmp 14), none⟩,
 ⟨some 16, .fieldAddr 47 (.tmp 15) 0, none⟩,
 ⟨some 17, .load 24 (.tmp 16), none⟩,
 ⟨some 18, .move (.tmp 4), none⟩,
 ⟨some 19, .load 44 (.tmp 3), none⟩,
 ⟨some 20, .call ⟨.value (.func 71), #[.tmp 19], #[44]⟩, none⟩,
 ⟨some 21, .call ⟨.value (.func 30), #[.tmp 17, .tmp 18, .tmp 20], #[24, 3, 22]⟩, none⟩] [(0, 6), (1, 6), (2, 6), (3, 6), (4, 6)])
 (.seq (.draw [⟨some 22, .move (.tmp 0), none⟩,
 ⟨some 23, .nilCheck (.tmp 22), none⟩,
 ⟨some 24, .fieldAddr 47 (.tmp 23) 0, none⟩,
 ⟨some 25, .load 24 (.tmp 24), none⟩,
 ⟨some 26, .move (.tmp 0), none⟩,
 ⟨some 27, .nilCheck (.tmp 26), none⟩,
 ⟨some 28, .fieldAddr 47 (.tmp 27) 1, none⟩,
 ⟨some 29, .load 3 (.tmp 28), none⟩,
 ⟨some 30, .move (.tmp 0), none⟩,
 ⟨some 31, .nilCheck (.tmp 30), none⟩,
 ⟨some 32, .fieldAddr 47 (.tmp 31) 2, none⟩,
 ⟨some 33, .load 3 (.tmp 32), none⟩,
 ⟨some 34, .call ⟨.value (.func 38), #[.tmp 25, .tmp 29, .tmp 33], #[24, 3, 3]⟩, none⟩] [])
 (.ops [⟨some 35, .move (.tmp 0), none⟩,
 ⟨some 36, .load 44 (.tmp 3), none⟩,
 ⟨some 37, .nilCheck (.tmp 35), none⟩,
 ⟨some 38, .fieldAddr 47 (.tmp 37) 3, none⟩,
 ⟨none, .store 44 (.tmp 38) (.tmp 36), none⟩])))))
theorem ir36_eq : (Try.f36.body.map low, Try.f36.ntmps, Try.f36.results.toList) = (some ir36, 39, []) := by kernel_rfl
def ir37 : LC := (.seq (.ops [⟨some 2, .assign (.const (.slice none 0 0)), none⟩])
 (.seq (.ops [⟨some 3, .move (.tmp 0), none⟩,
 ⟨some 4, .call ⟨.value (.func 42), #[.tmp 3], #[22]⟩, none⟩,
 ⟨some 5, .move (.tmp 0), none⟩,
 ⟨some 6, .call ⟨.builtin .len, #[.tmp 5], #[22]⟩, none⟩,
 ⟨some 7, .binOp .sub 3 (.const (.int .i64 128)) (.tmp 6) 3, none⟩,
 ⟨some 8, .call ⟨.builtin .append, #[.tmp 4, .tmp 7], #[22, 3]⟩, none⟩,
 ⟨some 2, .assign (.tmp 8), none⟩])
 .ret))
theorem ir37_eq : (Try.f37.body.map low, Try.f37.ntmps, Try.f37.results.toList) = (some ir37, 9, [.tmp 2]) := by kernel_rfl
def ir38_l0 : LC := (.seq (.seq (.ops [⟨some 40, .move (.tmp 7), none⟩,
 ⟨some 41, .move (.tmp 1), none⟩,
 ⟨some 42, .move (.tmp 2), none⟩,
 ⟨some 43, .binOp .add 3 (.tmp 41) (.tmp 42) 3, none⟩,
 ⟨some 44, .binOp .lss 3 (.tmp 40) (.tmp 43) 3, none⟩])
 (.cond (.tmp 44)
 .skip
 (.exit 1)))
 (.seq (.block 2 (.seq (.draw [⟨some 47, .move (.tmp 0), none⟩,
 ⟨some 48, .nilCheck (.tmp 47), none⟩,
 ⟨some 49, .fieldAddr 80 (.tmp 48) 0, none⟩,
 ⟨some 50, .load 77 (.tmp 49), none⟩,
 ⟨some 51, .move (.tmp 7), none⟩,
 ⟨some 52, .move (.tmp 0), none⟩,
 ⟨some 53, .move (.tmp 7), none⟩,
 ⟨some 54, .call ⟨.value (.func 64), #[.tmp 52, .tmp 53], #[24, 3]⟩, none⟩,
 ⟨some 55, .indexAddr 77 (.tmp 50) (.tmp 51), none⟩,
 ⟨none, .store 101 (.tmp 55) (.tmp 54), none⟩] [(0, 7), (1, 7), (2, 7), (3, 7), (4, 7)])
 (.ops [⟨some 56, .move (.tmp 0), none⟩,
 ⟨some 57, .nilCheck (.tmp 56), none⟩,
 ⟨some 58, .fieldAddr 80 (.tmp 57) 1, none⟩,
 ⟨some 59, .load 78 (.tmp 58), none⟩,
 ⟨some 60, .move (.tmp 7), none⟩,
 ⟨none, .call ⟨.builtin .delete, #[.tmp 59, .tmp 60], #[78, 3]⟩, none⟩])))
 (.ops [⟨some 45, .move (.tmp 7), none⟩,
 ⟨some 46, .binOp .add 3 (.tmp 45) (.const (.int .i64 1)) 3, none⟩,
 ⟨some 7, .assign (.tmp 46), none⟩])))
def ir38 : LC := (.seq (.ops [⟨some 6, .assign (.const (.int .i64 0)), none⟩])
 (.seq (.block 0 (.seq (.ops [⟨some 9, .move (.tmp 0), none⟩,
 ⟨some 10, .call ⟨.value (.func 60), #[.tmp 9], #[24]⟩, none⟩,
 ⟨some 11, .unOp .not 4 (.tmp 10), none⟩,
 ⟨some 8, .assign (.tmp 11), none⟩])
 (.cond (.tmp 8)
 (.seq (.ops [⟨some 6, .assign (.const (.int .i64 1)), none⟩])
 .ret)
 (.seq (.ops [⟨some 13, .move (.tmp 2), none⟩,
 ⟨some 14, .binOp .lss 3 (.tmp 13) (.const (.int .i64 0)) 3, none⟩,
 ⟨some 15, .move (.tmp 14), none⟩,
 ⟨some 16, .move (.tmp 1), some (15, false)⟩,
 ⟨some 17, .binOp .lss 3 (.tmp 16) (.const (.int .i64 0)) 3, some (15, false)⟩,
 ⟨some 18, .pick (.tmp 15) (.const (.bool true)) (.tmp 17), none⟩,
 ⟨some 19, .move (.tmp 18), none⟩,
 ⟨some 20, .move (.tmp 1), some (19, false)⟩,
 ⟨some 21, .move (.tmp 0), some (19, false)⟩,
 ⟨some 22, .nilCheck (.tmp 21), some (19, false)⟩,
 ⟨some 23, .fieldAddr 80 (.tmp 22) 0, some (19, false)⟩,
 ⟨some 24, .load 77 (.tmp 23), some (19, false)⟩,
 ⟨some 25, .call ⟨.builtin .len, #[.tmp 24], #[77]⟩, some (19, false)⟩,
 ⟨some 26, .binOp .gtr 3 (.tmp 20) (.tmp 25) 3, some (19, false)⟩,
 ⟨some 27, .pick (.tmp 19) (.const (.bool true)) (.tmp 26), none⟩,
 ⟨some 28, .move (.tmp 27), none⟩,
 ⟨some 29, .move (.tmp 2), some (28, false)⟩,
 ⟨some 30, .move (.tmp 0), some (28, false)⟩,
 ⟨some 31, .nilCheck (.tmp 30), some (28, false)⟩,
 ⟨some 32, .fieldAddr 80 (.tmp 31) 0, some (28, false)⟩,
 ⟨some 33, .load 77 (.tmp 32), some (28, false)⟩,
 ⟨some 34, .call ⟨.builtin .len, #[.tmp 33], #[77]⟩, some (28, false)⟩,
 ⟨some 35, .move (.tmp 1), some (28, false)⟩,
 ⟨some 36, .binOp .sub 3 (.tmp 34) (.tmp 35) 3, some (28, false)⟩,
 ⟨some 37, .binOp .gtr 3 (.tmp 29) (.tmp 36) 3, some (28, false)⟩,
 ⟨some 38, .pick (.tmp 28) (.const (.bool true)) (.tmp 37), none⟩,
 ⟨some 12, .assign (.tmp 38), none⟩])
 (.cond (.tmp 12)
 (.seq (.ops [⟨some 6, .assign (.const (.int .i64 2)), none⟩])
 .ret)
 .skip)))))
 (.seq (.seq (.ops [⟨some 39, .move (.tmp 1), none⟩,
 ⟨some 7, .assign (.tmp 39), none⟩])
 (.block 1 (.loop ir38_l0)))
 (.seq (.ops [⟨some 6, .assign (.const (.int .i64 0)), none⟩])
 .ret))))
theorem ir38_eq : (Try.f38.body.map low, Try.f38.ntmps, Try.f38.results.toList) = (some ir38, 61, [.tmp 6]) := by kernel_rfl
def ir39 : LC := (.seq (.ops [⟨some 2, .assign (.const (.bool false)), none⟩])
 (.seq (.ops [⟨some 3, .move (.tmp 0), none⟩,
 ⟨some 4, .binOp .neq 32 (.tmp 3) (.const (.pointer none)) 32, none⟩,
 ⟨some 5, .move (.tmp 4), none⟩,
 ⟨some 6, .move (.tmp 0), some (5, true)⟩,
 ⟨some 7, .nilCheck (.tmp 6), some (5, true)⟩,
 ⟨some 8, .fieldAddr 47 (.tmp 7) 0, some (5, true)⟩,
 ⟨some 9, .load 24 (.tmp 8), some (5, true)⟩,
 ⟨some 10, .binOp .neq 24 (.tmp 9) (.const (.pointer none)) 24, some (5, true)⟩,
 ⟨some 11, .pick (.tmp 5) (.tmp 10) (.const (.bool false)), none⟩,
 ⟨some 2, .assign (.tmp 11), none⟩])
 .ret))
theorem ir39_eq : (Try.f39.body.map low, Try.f39.ntmps, Try.f39.results.toList) = (some ir39, 12, [.tmp 2]) := by kernel_rfl
def ir40 : LC := (.seq (.ops [⟨some 2, .alloc 86, none⟩,
 ⟨some 3, .assign (.const (.int .i64 0)), none⟩])
 (.seq (.ops [⟨some 5, .move (.tmp 0), none⟩,
 ⟨some 6, .nilCheck (.tmp 5), none⟩,
 ⟨some 7, .fieldAddr 47 (.tmp 6) 2, none⟩,
 ⟨some 8, .load 3 (.tmp 7), none⟩,
 ⟨some 9, .binOp .sub 3 (.tmp 8) (.const (.int .i64 2)) 3, none⟩,
 ⟨some 10, .binOp .quo 3 (.tmp 9) (.const (.int .i64 2)) 3, none⟩,
 ⟨some 4, .assign (.tmp 10), none⟩])
 (.seq (.draw [⟨some 11, .move (.tmp 0), none⟩,
 ⟨some 12, .nilCheck (.tmp 11), none⟩,
 ⟨some 13, .fieldAddr 47 (.tmp 12) 1, none⟩,
 ⟨some 14, .load 3 (.tmp 13), none⟩,
 ⟨some 15, .binOp .add 3 (.tmp 14) (.const (.int .i64 2)) 3, none⟩,
 ⟨some 16, .move (.tmp 0), none⟩,
 ⟨some 17, .nilCheck (.tmp 16), none⟩,
 ⟨some 18, .fieldAddr 47 (.tmp 17) 1, none⟩,
 ⟨some 19, .load 3 (.tmp 18), none⟩,
 ⟨some 20, .binOp .add 3 (.tmp 19) (.const (.int .i64 2)) 3, none⟩,
 ⟨some 21, .move (.tmp 4), none⟩,
 ⟨some 22, .binOp .add 3 (.tmp 20) (.tmp 21) 3, none⟩,
 ⟨some 23, .build 86 #[(0, .tmp 15), (1, .tmp 22)], none⟩,
 ⟨some 24, .move (.tmp 4), none⟩,
 ⟨none, .store 86 (.tmp 2) (.tmp 23), none⟩,
 ⟨some 3, .assign (.tmp 24), none⟩] [(13, 14)])
 .ret)))
theorem ir40_eq : (Try.f40.body.map low, Try.f40.ntmps, Try.f40.results.toList) = (some ir40, 25, [.cell 2 86, .tmp 3]) := by kernel_rfl
def ir41 : LC := (.seq (.ops [⟨some 2, .box 90 (.tmp 0), none⟩,
 ⟨some 4, .assign (.const (.slice none 0 0)), none⟩])
 (.seq (.draw [⟨some 5, .fieldAddr 90 (.tmp 2) 0, none⟩,
 ⟨some 6, .load 42 (.tmp 5), none⟩,
 ⟨some 7, .call ⟨.value (.func 44), #[.tmp 6], #[42]⟩, none⟩,
 ⟨some 8, .fieldAddr 90 (.tmp 2) 1, none⟩,
 ⟨some 9, .load 42 (.tmp 8), none⟩,
 ⟨some 10, .call ⟨.value (.func 44), #[.tmp 9], #[42]⟩, none⟩,
 ⟨some 11, .fieldAddr 90 (.tmp 2) 2, none⟩,
 ⟨some 12, .load 5 (.tmp 11), none⟩,
 ⟨some 13, .fieldAddr 90 (.tmp 2) 3, none⟩,
 ⟨some 14, .load 5 (.tmp 13), none⟩,
 ⟨some 15, .move (.tmp 1), none⟩,
 ⟨some 16, .call ⟨.builtin .len, #[.tmp 15], #[22]⟩, none⟩,
 ⟨some 17, .convert 3 5 (.tmp 16), none⟩,
 ⟨some 18, .buildSlice 22 3 #[(0, .tmp 12), (1, .tmp 14), (2, .tmp 17)], none⟩,
 ⟨some 19, .move (.tmp 1), none⟩,
 ⟨some 20, .buildSlice 45 4 #[(0, .tmp 7), (1, .tmp 10), (2, .tmp 18), (3, .tmp 19)], none⟩,
 ⟨some 21, .call ⟨.value (.func 72), #[.tmp 20], #[45]⟩, none⟩,
 ⟨some 22, .call ⟨.value (.func 37), #[.tmp 21], #[22]⟩, none⟩,
 ⟨some 4, .assign (.tmp 22), none⟩] [(2, 3), (2, 4), (2, 6), (5, 6), (2, 7), (5, 7), (2, 8), (5, 8), (2, 9), (5, 9), (2, 10), (5, 10), (2, 11), (5, 11), (2, 12), (5, 12), (0, 13), (1, 13), (2, 13), (3, 13), (4, 13), (5, 13), (2, 14), (5, 14), (13, 14)])
 .ret))
theorem ir41_eq : (Try.f41.body.map low, Try.f41.ntmps, Try.f41.results.toList) = (some ir41, 23, [.tmp 4]) := by kernel_rfl
def ir42 : LC := (.seq (.ops [⟨some 2, .assign (.const (.slice none 0 0)), none⟩])
 (.seq (.seq (.ops [⟨some 3, .move (.tmp 0), none⟩,
 ⟨some 4, .binOp .eql 22 (.tmp 3) (.const (.slice none 0 0)) 22, none⟩])
 (.cond (.tmp 4)
 (.seq (.ops [⟨some 2, .assign (.const (.slice none 0 0)), none⟩])
 .ret)
 .skip))
 (.seq (.ops [⟨some 5, .buildSlice 22 0 #[], none⟩,
 ⟨some 6, .move (.tmp 0), none⟩,
 ⟨some 7, .call ⟨.builtin .append, #[.tmp 5, .tmp 6], #[22, 22]⟩, none⟩,
 ⟨some 2, .assign (.tmp 7), none⟩])
 .ret)))
theorem ir42_eq : (Try.f42.body.map low, Try.f42.ntmps, Try.f42.results.toList) = (some ir42, 8, [.tmp 2]) := by kernel_rfl
def ir44_l0 : LC := (.seq (.seq (.ops [⟨some 5, .move (.tmp 4), none⟩,
 ⟨some 6, .binOp .geq 3 (.tmp 5) (.const (.int .i64 0)) 3, none⟩])
 (.cond (.tmp 6)
 .skip
 (.exit 0)))
 (.seq (.block 1 (.ops [⟨some 9, .move (.tmp 3), none⟩,
 ⟨some 10, .move (.tmp 0), none⟩,
 ⟨some 11, .move (.tmp 4), none⟩,
 ⟨some 12, .binOp .shr 42 (.tmp 10) (.tmp 11) 3, none⟩,
 ⟨some 13, .convert 42 5 (.tmp 12), none⟩,
 ⟨some 14, .buildSlice 22 1 #[(0, .tmp 13)], none⟩,
 ⟨some 15, .call ⟨.builtin .append, #[.tmp 9, .tmp 14], #[22, 22]⟩, none⟩,
 ⟨some 3, .assign (.tmp 15), none⟩]))
 (.ops [⟨some 7, .move (.tmp 4), none⟩,
 ⟨some 8, .binOp .sub 3 (.tmp 7) (.const (.int .i64 8)) 3, none⟩,
 ⟨some 4, .assign (.tmp 8), none⟩])))
def ir44 : LC := (.seq (.ops [⟨some 2, .assign (.const (.slice none 0 0)), none⟩])
 (.seq (.ops [⟨some 3, .assign (.const (.slice none 0 0)), none⟩])
 (.seq (.seq (.ops [⟨some 4, .assign (.const (.int .i64 56)), none⟩])
 (.block 0 (.loop ir44_l0)))
 (.seq (.ops [⟨some 16, .move (.tmp 3), none⟩,
 ⟨some 2, .assign (.tmp 16), none⟩])
 .ret))))
theorem ir44_eq : (Try.f44.body.map low, Try.f44.ntmps, Try.f44.results.toList) = (some ir44, 17, [.tmp 2]) := by kernel_rfl
def ir58 : LC := (.seq (.ops [⟨some 2, .assign (.const (.int .i64 0)), none⟩])
 (.seq (.seq (.ops [⟨some 3, .move (.tmp 0), none⟩,
 ⟨some 4, .call ⟨.value (.func 60), #[.tmp 3], #[24]⟩, none⟩,
 ⟨some 5, .unOp .not 4 (.tmp 4), none⟩])
 (.cond (.tmp 5)
 (.seq (.ops [⟨some 2, .assign (.const (.int .i64 0)), none⟩])
 .ret)
 .skip))
 (.seq (.ops [⟨some 6, .move (.tmp 0), none⟩,
 ⟨some 7, .nilCheck (.tmp 6), none⟩,
 ⟨some 8, .fieldAddr 80 (.tmp 7) 0, none⟩,
 ⟨some 9, .load 77 (.tmp 8), none⟩,
 ⟨some 10, .call ⟨.builtin .len, #[.tmp 9], #[77]⟩, none⟩,
 ⟨some 2, .assign (.tmp 10), none⟩])
 .ret)))
theorem ir58_eq : (Try.f58.body.map low, Try.f58.ntmps, Try.f58.results.toList) = (some ir58, 11, [.tmp 2]) := by kernel_rfl
def ir60 : LC := (.seq (.ops [⟨some 2, .assign (.const (.bool false)), none⟩])
 (.seq (.ops [⟨some 3, .move (.tmp 0), none⟩,
 ⟨some 4, .binOp .neq 24 (.tmp 3) (.const (.pointer none)) 24, none⟩,
 ⟨some 5, .move (.tmp 4), none⟩,
 ⟨some 6, .move (.tmp 0), some (5, true)⟩,
 ⟨some 7, .nilCheck (.tmp 6), some (5, true)⟩,
 ⟨some 8, .fieldAddr 80 (.tmp 7) 0, some (5, true)⟩,
 ⟨some 9, .load 77 (.tmp 8), some (5, true)⟩,
 ⟨some 10, .call ⟨.builtin .len, #[.tmp 9], #[77]⟩, some (5, true)⟩,
 ⟨some 11, .binOp .gtr 3 (.tmp 10) (.const (.int .i64 0)) 3, some (5, true)⟩,
 ⟨some 12, .pick (.tmp 5) (.tmp 11) (.const (.bool false)), none⟩,
 ⟨some 2, .assign (.tmp 12), none⟩])
 .ret))
theorem ir60_eq : (Try.f60.body.map low, Try.f60.ntmps, Try.f60.results.toList) = (some ir60, 13, [.tmp 2]) := by kernel_rfl
def ir61 : LC := (.seq (.ops [⟨some 2, .assign (.const (.slice none 0 0)), none⟩])
 (.seq (.seq (.ops [⟨some 3, .move (.tmp 0), none⟩,
 ⟨some 4, .binOp .eql 77 (.tmp 3) (.const (.slice none 0 0)) 77, none⟩])
 (.cond (.tmp 4)
 (.seq (.ops [⟨some 2, .assign (.const (.slice none 0 0)), none⟩])
 .ret)
 .skip))
 (.seq (.ops [⟨some 5, .buildSlice 77 0 #[], none⟩,
 ⟨some 6, .move (.tmp 0), none⟩,
 ⟨some 7, .call ⟨.builtin .append, #[.tmp 5, .tmp 6], #[77, 77]⟩, none⟩,
 ⟨some 2, .assign (.tmp 7), none⟩])
 .ret)))
theorem ir61_eq : (Try.f61.body.map low, Try.f61.ntmps, Try.f61.results.toList) = (some ir61, 8, [.tmp 2]) := by kernel_rfl
def ir62 : LC := (.seq (.ops [⟨some 1, .box 78 (.tmp 0), none⟩,
 ⟨some 2, .assign (.const .nilFunc), none⟩])
 (.seq (.ops [⟨some 3, .makeFunc (Fn.func 84) #[] #[.tmp 1], none⟩,
 ⟨some 2, .assign (.tmp 3), none⟩])
 .ret))
theorem ir62_eq : (Try.f62.body.map low, Try.f62.ntmps, Try.f62.results.toList) = (some ir62, 4, [.tmp 2]) := by kernel_rfl
def ir63 : LC := (.seq (.ops [⟨some 4, .assign (.const (.int .i64 0)), none⟩])
 (.seq (.block 0 (.seq (.ops [⟨some 6, .move (.tmp 0), none⟩,
 ⟨some 7, .call ⟨.value (.func 60), #[.tmp 6], #[24]⟩, none⟩,
 ⟨some 8, .unOp .not 4 (.tmp 7), none⟩,
 ⟨some 5, .assign (.tmp 8), none⟩])
 (.cond (.tmp 5)
 (.seq (.ops [⟨some 4, .assign (.const (.int .i64 1)), none⟩])
 .ret)
 (.seq (.ops [⟨some 10, .move (.tmp 1), none⟩,
 ⟨some 11, .binOp .lss 3 (.tmp 10) (.const (.int .i64 0)) 3, none⟩,
 ⟨some 12, .move (.tmp 11), none⟩,
 ⟨some 13, .move (.tmp 1), some (12, false)⟩,
 ⟨some 14, .move (.tmp 0), some (12, false)⟩,
 ⟨some 15, .nilCheck (.tmp 14), some (12, false)⟩,
 ⟨some 16, .fieldAddr 80 (.tmp 15) 0, some (12, false)⟩,
 ⟨some 17, .load 77 (.tmp 16), some (12, false)⟩,
 ⟨some 18, .call ⟨.builtin .len, #[.tmp 17], #[77]⟩, some (12, false)⟩,
 ⟨some 19, .binOp .geq 3 (.tmp 13) (.tmp 18) 3, some (12, false)⟩,
 ⟨some 20, .pick (.tmp 12) (.const (.bool true)) (.tmp 19), none⟩,
 ⟨some 9, .assign (.tmp 20), none⟩])
 (.cond (.tmp 9)
 (.seq (.ops [⟨some 4, .assign (.const (.int .i64 2)), none⟩])
 .ret)
 .skip)))))
 (.seq (.ops [⟨some 4, .assign (.const (.int .i64 0)), none⟩])
 .ret)))
theorem ir63_eq : (Try.f63.body.map low, Try.f63.ntmps, Try.f63.results.toList) = (some ir63, 21, [.tmp 4]) := by kernel_rfl
def ir64 : LC := (.seq (.ops [⟨some 4, .alloc 101, none⟩])
 (.seq (.seq (.ops [⟨some 6, .move (.tmp 0), none⟩,
 ⟨some 7, .nilCheck (.tmp 6), none⟩,
 ⟨some 8, .fieldAddr 80 (.tmp 7) 1, none⟩,
 ⟨some 9, .load 78 (.tmp 8), none⟩,
 ⟨some 10, .move (.tmp 1), none⟩,
 ⟨some 11, .lookup 78 (.tmp 9) (.tmp 10) false, none⟩,
 ⟨some 5, .assign (.tmp 11), none⟩])
 (.seq (.ops [⟨some 12, .move (.tmp 5), none⟩,
 ⟨some 13, .call ⟨.builtin .len, #[.tmp 12], #[77]⟩, none⟩,
 ⟨some 14, .binOp .gtr 3 (.tmp 13) (.const (.int .i64 0)) 3, none⟩])
 (.cond (.tmp 14)
 (.seq (.ops [⟨some 15, .move (.tmp 5), none⟩,
 ⟨some 16, .move (.tmp 5), none⟩,
 ⟨some 17, .call ⟨.builtin .len, #[.tmp 16], #[77]⟩, none⟩,
 ⟨some 18, .binOp .sub 3 (.tmp 17) (.const (.int .i64 1)) 3, none⟩,
 ⟨some 19, .indexAddr 77 (.tmp 15) (.tmp 18), none⟩,
 ⟨some 20, .load 101 (.tmp 19), none⟩,
 ⟨none, .store 101 (.tmp 4) (.tmp 20), none⟩])
 .ret)
 .skip)))
 (.seq (.ops [⟨some 21, .move (.tmp 0), none⟩,
 ⟨some 22, .nilCheck (.tmp 21), none⟩,
 ⟨some 23, .fieldAddr 80 (.tmp 22) 0, none⟩,
 ⟨some 24, .load 77 (.tmp 23), none⟩,
 ⟨some 25, .move (.tmp 1), none⟩,
 ⟨some 26, .indexAddr 77 (.tmp 24) (.tmp 25), none⟩,
 ⟨some 27, .load 101 (.tmp 26), none⟩,
 ⟨none, .store 101 (.tmp 4) (.tmp 27), none⟩])
 .ret)))
theorem ir64_eq : (Try.f64.body.map low, Try.f64.ntmps, Try.f64.results.toList) = (some ir64, 28, [.cell 4 101]) := by kernel_rfl
def ir67 : LC := (.seq (.ops [⟨some 4, .assign (.const (.bool false)), none⟩])
 (.seq (.ops [⟨some 5, .move (.tmp 0), none⟩,
 ⟨some 6, .convert 22 9 (.tmp 5), none⟩,
 ⟨some 7, .move (.tmp 1), none⟩,
 ⟨some 8, .convert 22 9 (.tmp 7), none⟩,
 ⟨some 9, .binOp .eql 9 (.tmp 6) (.tmp 8) 9, none⟩,
 ⟨some 4, .assign (.tmp 9), none⟩])
 .ret))
theorem ir67_eq : (Try.f67.body.map low, Try.f67.ntmps, Try.f67.results.toList) = (some ir67, 10, [.tmp 4]) := by kernel_rfl
def ir68_l0 : LC := (.seq (.ops [⟨some 13, .binOp .lss 3 (.tmp 12) (.const (.int .i64 6)) 3, none⟩])
 (.seq (.cond (.tmp 13)
 .skip
 (.exit 0))
 (.seq (.block 1 (.seq (.ops [⟨some 14, .move (.tmp 12), none⟩,
 ⟨some 6, .assign (.tmp 14), none⟩])
 (.seq (.ops [⟨some 16, .move (.tmp 4), none⟩,
 ⟨some 17, .call ⟨.value (.func 90), #[.tmp 16], #[151]⟩, none⟩,
 ⟨some 15, .move (.tmp 17), none⟩,
 ⟨some 18, .extract (.tmp 15) 0, none⟩,
 ⟨some 19, .extract (.tmp 15) 1, none⟩,
 ⟨some 7, .assign (.tmp 18), none⟩,
 ⟨some 8, .assign (.tmp 19), none⟩])
 (.seq (.seq (.ops [⟨some 20, .move (.tmp 8), none⟩,
 ⟨some 21, .binOp .neq 25 (.tmp 20) (.const (.int .i64 0)) 25, none⟩])
 (.cond (.tmp 21)
 (.seq (.ops [⟨some 22, .build 44 #[], none⟩,
 ⟨none, .store 44 (.tmp 2) (.tmp 22), none⟩,
 ⟨some 3, .assign (.const (.bool false)), none⟩])
 .ret)
 .skip))
 (.ops [⟨some 23, .move (.tmp 6), none⟩,
 ⟨some 24, .move (.tmp 7), none⟩,
 ⟨some 25, .indexAddr 153 (.tmp 5) (.tmp 23), none⟩,
 ⟨none, .store 42 (.tmp 25) (.tmp 24), none⟩])))))
 (.ops [⟨some 26, .binOp .add 3 (.tmp 12) (.const (.int .i64 1)) 3, none⟩,
 ⟨some 12, .move (.tmp 26), none⟩]))))
def ir68 : LC := (.seq (.ops [⟨some 2, .alloc 44, none⟩,
 ⟨some 3, .assign (.const (.bool false)), none⟩])
 (.seq (.ops [⟨some 10, .move (.tmp 0), none⟩,
 ⟨some 11, .call ⟨.value (.func 89), #[.tmp 10], #[22]⟩, none⟩,
 ⟨some 4, .assign (.tmp 11), none⟩])
 (.seq (.ops [⟨some 5, .alloc 153, none⟩])
 (.seq (.seq (.ops [⟨some 12, .move (.const (.int .i64 0)), none⟩])
 (.block 0 (.loop ir68_l0)))
 (.seq (.ops [⟨some 27, .indexAddr 153 (.tmp 5) (.const (.int .i64 1)), none⟩,
 ⟨some 28, .load 42 (.tmp 27), none⟩,
 ⟨some 29, .indexAddr 153 (.tmp 5) (.const (.int .i64 2)), none⟩,
 ⟨some 30, .load 42 (.tmp 29), none⟩,
 ⟨some 31, .indexAddr 153 (.tmp 5) (.const (.int .i64 3)), none⟩,
 ⟨some 32, .load 42 (.tmp 31), none⟩,
 ⟨some 33, .indexAddr 153 (.tmp 5) (.const (.int .i64 4)), none⟩,
 ⟨some 34, .load 42 (.tmp 33), none⟩,
 ⟨some 35, .indexAddr 153 (.tmp 5) (.const (.int .i64 5)), none⟩,
 ⟨some 36, .load 42 (.tmp 35), none⟩,
 ⟨some 37, .build 44 #[(0, .tmp 28), (1, .tmp 30), (2, .tmp 32), (3, .tmp 34), (4, .tmp 36)], none⟩,
 ⟨some 9, .alloc 44, none⟩,
 ⟨none, .store 44 (.tmp 9) (.tmp 37), none⟩])
 (.seq (.draw [⟨some 38, .load 44 (.tmp 9), none⟩,
 ⟨some 39, .indexAddr 153 (.tmp 5) (.const (.int .i64 0)), none⟩,
 ⟨some 40, .load 42 (.tmp 39), none⟩,
 ⟨some 41, .binOp .eql 42 (.tmp 40) (.const (.int .u64 71)) 42, none⟩,
 ⟨some 42, .move (.tmp 41), none⟩,
 ⟨some 43, .fieldAddr 44 (.tmp 9) 1, some (42, true)⟩,
 ⟨some 44, .load 42 (.tmp 43), some (42, true)⟩,
 ⟨some 45, .fieldAddr 44 (.tmp 9) 0, some (42, true)⟩,
 ⟨some 46, .load 42 (.tmp 45), some (42, true)⟩,
 ⟨some 47, .binOp .leq 42 (.tmp 44) (.tmp 46) 42, some (42, true)⟩,
 ⟨some 48, .pick (.tmp 42) (.tmp 47) (.const (.bool false)), none⟩,
 ⟨some 49, .move (.tmp 48), none⟩,
 ⟨some 50, .fieldAddr 44 (.tmp 9) 2, some (49, true)⟩,
 ⟨some 51, .load 42 (.tmp 50), some (49, true)⟩,
 ⟨some 52, .binOp .lss 42 (.tmp 51) (.const (.int .u64 2)) 42, some (49, true)⟩,
 ⟨some 53, .pick (.tmp 49) (.tmp 52) (.const (.bool false)), none⟩,
 ⟨some 54, .move (.tmp 53), none⟩,
 ⟨some 55, .fieldAddr 44 (.tmp 9) 4, some (54, true)⟩,
 ⟨some 56, .load 42 (.tmp 55), some (54, true)⟩,
 ⟨some 57, .binOp .geq 42 (.tmp 56) (.const (.int .u64 1)) 42, some (54, true)⟩,
 ⟨some 58, .pick (.tmp 54) (.tmp 57) (.const (.bool false)), none⟩,
 ⟨some 59, .move (.tmp 58), none⟩,
 ⟨some 60, .load 44 (.tmp 9), some (59, true)⟩,
 ⟨some 61, .call ⟨.value (.func 71), #[.tmp 60], #[44]⟩, some (59, true)⟩,
 ⟨some 62, .move (.tmp 0), some (59, true)⟩,
 ⟨some 63, .call ⟨.value (.func 67), #[.tmp 61, .tmp 62], #[22, 22]⟩, some (59, true)⟩,
 ⟨some 64, .pick (.tmp 59) (.tmp 63) (.const (.bool false)), none⟩,
 ⟨none, .store 44 (.tmp 2) (.tmp 38), none⟩,
 ⟨some 3, .assign (.tmp 64), none⟩] [(0, 23), (23, 24), (0, 25), (26, 27)])
 .ret))))))
theorem ir68_eq : (Try.f68.body.map low, Try.f68.ntmps, Try.f68.results.toList) = (some ir68, 65, [.cell 2 44, .tmp 3]) := by kernel_rfl
def ir69 : LC := (.seq (.ops [⟨some 2, .assign (.const (.int .i64 0)), none⟩])
 (.seq (.ops [⟨some 3, .move (.tmp 0), none⟩,
 ⟨some 4, .binOp .add 3 (.tmp 3) (.const (.int .i64 120)) 3, none⟩,
 ⟨some 5, .binOp .sub 3 (.tmp 4) (.const (.int .i64 1)) 3, none⟩,
 ⟨some 6, .binOp .quo 3 (.tmp 5) (.const (.int .i64 120)) 3, none⟩,
 ⟨some 2, .assign (.tmp 6), none⟩])
 .ret))
theorem ir69_eq : (Try.f69.body.map low, Try.f69.ntmps, Try.f69.results.toList) = (some ir69, 7, [.tmp 2]) := by kernel_rfl
def ir70 : LC := (.seq (.ops [⟨some 2, .box 32 (.tmp 0), none⟩,
 ⟨some 3, .box 3 (.tmp 1), none⟩,
 ⟨some 4, .assign (.const .nilFunc), none⟩])
 (.seq (.ops [⟨some 5, .makeFunc (Fn.func 91) #[] #[.tmp 2, .tmp 3], none⟩,
 ⟨some 4, .assign (.tmp 5), none⟩])
 .ret))
theorem ir70_eq : (Try.f70.body.map low, Try.f70.ntmps, Try.f70.results.toList) = (some ir70, 6, [.tmp 4]) := by kernel_rfl
def ir71 : LC := (.seq (.ops [⟨some 1, .box 44 (.tmp 0), none⟩,
 ⟨some 2, .assign (.const (.slice none 0 0)), none⟩])
 (.seq (.draw [⟨some 3, .call ⟨.value (.func 93), #[.const (.int .u64 71)], #[42]⟩, none⟩,
 ⟨some 4, .fieldAddr 44 (.tmp 1) 0, none⟩,
 ⟨some 5, .load 42 (.tmp 4), none⟩,
 ⟨some 6, .call ⟨.value (.func 93), #[.tmp 5], #[42]⟩, none⟩,
 ⟨some 7, .fieldAddr 44 (.tmp 1) 1, none⟩,
 ⟨some 8, .load 42 (.tmp 7), none⟩,
 ⟨some 9, .call ⟨.value (.func 93), #[.tmp 8], #[42]⟩, none⟩,
 ⟨some 10, .fieldAddr 44 (.tmp 1) 2, none⟩,
 ⟨some 11, .load 42 (.tmp 10), none⟩,
 ⟨some 12, .call ⟨.value (.func 93), #[.tmp 11], #[42]⟩, none⟩,
 ⟨some 13, .fieldAddr 44 (.tmp 1) 3, none⟩,
 ⟨some 14, .load 42 (.tmp 13), none⟩,
 ⟨some 15, .call ⟨.value (.func 93), #[.tmp 14], #[42]⟩, none⟩,
 ⟨some 16, .fieldAddr 44 (.tmp 1) 4, none⟩,
 ⟨some 17, .load 42 (.tmp 16), none⟩,
 ⟨some 18, .call ⟨.value (.func 93), #[.tmp 17], #[42]⟩, none⟩,
 ⟨some 19, .buildSlice 45 6 #[(0, .tmp 3), (1, .tmp 6), (2, .tmp 9), (3, .tmp 12), (4, .tmp 15), (5, .tmp 18)], none⟩,
 ⟨some 20, .call ⟨.value (.func 72), #[.tmp 19], #[45]⟩, none⟩,
 ⟨some 21, .call ⟨.value (.func 37), #[.tmp 20], #[22]⟩, none⟩,
 ⟨some 2, .assign (.tmp 21), none⟩] [(0, 1), (0, 2), (0, 4), (3, 4), (0, 5), (3, 5), (0, 7), (3, 7), (6, 7), (0, 8), (3, 8), (6, 8), (0, 10), (3, 10), (6, 10), (9, 10), (0, 11), (3, 11), (6, 11), (9, 11), (0, 13), (3, 13), (6, 13), (9, 13), (12, 13), (0, 14), (3, 14), (6, 14), (9, 14), (12, 14)])
 .ret))
theorem ir71_eq : (Try.f71.body.map low, Try.f71.ntmps, Try.f71.results.toList) = (some ir71, 22, [.tmp 2]) := by kernel_rfl
def ir72_l0 : LC := (.seq (.ops [⟨some 10, .binOp .lss 3 (.tmp 9) (.tmp 8) 3, none⟩])
 (.seq (.cond (.tmp 10)
 .skip
 (.exit 0))
 (.seq (.block 1 (.seq (.ops [⟨some 11, .indexAddr 45 (.tmp 7) (.tmp 9), none⟩,
 ⟨some 12, .load 22 (.tmp 11), none⟩,
 ⟨some 5, .assign (.tmp 12), none⟩])
 (.ops [⟨some 13, .move (.tmp 3), none⟩,
 ⟨some 14, .move (.tmp 5), none⟩,
 ⟨some 15, .call ⟨.builtin .append, #[.tmp 13, .tmp 14], #[22, 22]⟩, none⟩,
 ⟨some 3, .assign (.tmp 15), none⟩])))
 (.ops [⟨some 16, .binOp .add 3 (.tmp 9) (.const (.int .i64 1)) 3, none⟩,
 ⟨some 9, .move (.tmp 16), none⟩]))))
def ir72 : LC := (.seq (.ops [⟨some 2, .assign (.const (.slice none 0 0)), none⟩])
 (.seq (.ops [⟨some 6, .buildSlice 22 0 #[], none⟩,
 ⟨some 3, .assign (.tmp 6), none⟩])
 (.seq (.seq (.ops [⟨some 7, .move (.tmp 0), none⟩,
 ⟨some 8, .call ⟨.builtin .len, #[.tmp 7], #[45]⟩, none⟩,
 ⟨some 9, .move (.const (.int .i64 0)), none⟩])
 (.block 0 (.loop ir72_l0)))
 (.seq (.ops [⟨some 17, .move (.tmp 3), none⟩,
 ⟨some 2, .assign (.tmp 17), none⟩])
 .ret))))
theorem ir72_eq : (Try.f72.body.map low, Try.f72.ntmps, Try.f72.results.toList) = (some ir72, 18, [.tmp 2]) := by kernel_rfl
def ir84_l0 : LC := (.seq (.ops [⟨some 7, .next (.tmp 6) false, none⟩,
 ⟨some 8, .extract (.tmp 7) 0, none⟩])
 (.seq (.cond (.tmp 8)
 .skip
 (.exit 0))
 (.block 1 (.seq (.ops [⟨some 9, .entry (.tmp 6), none⟩,
 ⟨some 10, .extract (.tmp 9) 0, none⟩,
 ⟨some 11, .extract (.tmp 9) 1, none⟩,
 ⟨some 3, .assign (.tmp 10), none⟩,
 ⟨some 4, .assign (.tmp 11), none⟩])
 (.seq (.ops [⟨some 12, .move (.tmp 0), none⟩,
 ⟨some 13, .move (.tmp 3), none⟩,
 ⟨some 14, .move (.tmp 4), none⟩,
 ⟨some 15, .call ⟨.value (.tmp 12), #[.tmp 13, .tmp 14], #[3, 77]⟩, none⟩,
 ⟨some 16, .unOp .not 4 (.tmp 15), none⟩])
 (.cond (.tmp 16)
 .ret
 .skip))))))
def ir84 : LC := (.seq (.ops [⟨some 5, .load 78 (.tmp 1), none⟩,
 ⟨some 6, .range 78 (.tmp 5), none⟩])
 (.block 0 (.loop ir84_l0)))
theorem ir84_eq : (Try.f84.body.map low, Try.f84.ntmps, Try.f84.results.toList) = (some ir84, 17, []) := by kernel_rfl
def ir89 : LC := (.seq (.ops [⟨some 2, .assign (.const (.pointer none)), none⟩])
 (.seq (.ops [⟨some 3, .move (.tmp 0), none⟩,
 ⟨some 4, .call ⟨.builtin .len, #[.tmp 3], #[22]⟩, none⟩,
 ⟨some 5, .binOp .add 3 (.tmp 4) (.const (.int .i64 1)) 3, none⟩,
 ⟨some 6, .makeSlice 22 (.const (.int .i64 0)) (.tmp 5), none⟩,
 ⟨some 7, .move (.tmp 0), none⟩,
 ⟨some 8, .call ⟨.builtin .append, #[.tmp 6, .tmp 7], #[22, 22]⟩, none⟩,
 ⟨some 9, .build 168 #[(0, .tmp 8)], none⟩,
 ⟨some 10, .box 168 (.tmp 9), none⟩,
 ⟨some 2, .assign (.tmp 10), none⟩])
 .ret))
theorem ir89_eq : (Try.f89.body.map low, Try.f89.ntmps, Try.f89.results.toList) = (some ir89, 11, [.tmp 2]) := by kernel_rfl
def ir90_l0 : LC := (.seq (.seq (.ops [⟨some 15, .move (.tmp 5), none⟩,
 ⟨some 16, .move (.tmp 0), none⟩,
 ⟨some 17, .nilCheck (.tmp 16), none⟩,
 ⟨some 18, .fieldAddr 168 (.tmp 17) 0, none⟩,
 ⟨some 19, .load 22 (.tmp 18), none⟩,
 ⟨some 20, .call ⟨.builtin .len, #[.tmp 19], #[22]⟩, none⟩,
 ⟨some 21, .binOp .lss 3 (.tmp 15) (.tmp 20) 3, none⟩])
 (.cond (.tmp 21)
 .skip
 (.exit 0)))
 (.seq (.block 1 (.seq (.ops [⟨some 24, .move (.tmp 0), none⟩,
 ⟨some 25, .nilCheck (.tmp 24), none⟩,
 ⟨some 26, .fieldAddr 168 (.tmp 25) 0, none⟩,
 ⟨some 27, .load 22 (.tmp 26), none⟩,
 ⟨some 28, .move (.tmp 5), none⟩,
 ⟨some 29, .indexAddr 22 (.tmp 27) (.tmp 28), none⟩,
 ⟨some 30, .load 5 (.tmp 29), none⟩,
 ⟨some 7, .assign (.tmp 30), none⟩])
 (.seq (.seq (.ops [⟨some 31, .move (.tmp 6), none⟩,
 ⟨some 32, .binOp .eql 169 (.tmp 31) (.const (.int .u64 63)) 169, none⟩,
 ⟨some 33, .move (.tmp 32), none⟩,
 ⟨some 34, .move (.tmp 7), some (33, true)⟩,
 ⟨some 35, .binOp .gtr 5 (.tmp 34) (.const (.int .u8 1)) 5, some (33, true)⟩,
 ⟨some 36, .pick (.tmp 33) (.tmp 35) (.const (.bool false)), none⟩,
 ⟨some 37, .move (.tmp 36), none⟩,
 ⟨some 38, .move (.tmp 6), some (37, false)⟩,
 ⟨some 39, .binOp .gtr 169 (.tmp 38) (.const (.int .u64 0)) 169, some (37, false)⟩,
 ⟨some 40, .move (.tmp 39), some (37, false)⟩,
 ⟨some 41, .move (.tmp 7), some (40, true)⟩,
 ⟨some 42, .binOp .eql 5 (.tmp 41) (.const (.int .u8 0)) 5, some (40, true)⟩,
 ⟨some 43, .pick (.tmp 40) (.tmp 42) (.const (.bool false)), some (37, false)⟩,
 ⟨some 44, .pick (.tmp 37) (.const (.bool true)) (.tmp 43), none⟩])
 (.cond (.tmp 44)
 (.exit 0)
 .skip))
 (.seq (.ops [⟨some 45, .move (.tmp 5), none⟩,
 ⟨some 46, .binOp .add 3 (.tmp 45) (.const (.int .i64 1)) 3, none⟩,
 ⟨some 5, .assign (.tmp 46), none⟩])
 (.seq (.ops [⟨some 47, .move (.tmp 4), none⟩,
 ⟨some 48, .move (.tmp 7), none⟩,
 ⟨some 49, .binOp .and 5 (.tmp 48) (.const (.int .u8 127)) 5, none⟩,
 ⟨some 50, .convert 5 42 (.tmp 49), none⟩,
 ⟨some 51, .move (.tmp 6), none⟩,
 ⟨some 52, .binOp .shl 42 (.tmp 50) (.tmp 51) 169, none⟩,
 ⟨some 53, .binOp .or 42 (.tmp 47) (.tmp 52) 42, none⟩,
 ⟨some 4, .assign (.tmp 53), none⟩])
 (.seq (.ops [⟨some 54, .move (.tmp 7), none⟩,
 ⟨some 55, .binOp .lss 5 (.tmp 54) (.const (.int .u8 128)) 5, none⟩])
 (.cond (.tmp 55)
 (.seq (.ops [⟨some 56, .move (.tmp 0), none⟩,
 ⟨some 57, .move (.tmp 5), none⟩,
 ⟨some 58, .nilCheck (.tmp 56), none⟩,
 ⟨some 59, .fieldAddr 168 (.tmp 58) 1, none⟩,
 ⟨none, .store 3 (.tmp 59) (.tmp 57), none⟩])
 (.seq (.ops [⟨some 60, .move (.tmp 4), none⟩,
 ⟨some 2, .assign (.tmp 60), none⟩,
 ⟨some 3, .assign (.const (.int .i64 0)), none⟩])
 .ret))
 .skip)))))))
 (.ops [⟨some 22, .move (.tmp 6), none⟩,
 ⟨some 23, .binOp .add 169 (.tmp 22) (.const (.int .u64 7)) 169, none⟩,
 ⟨some 6, .assign (.tmp 23), none⟩])))
def ir90 : LC := (.seq (.ops [⟨some 2, .assign (.const (.int .u64 0)), none⟩,
 ⟨some 3, .assign (.const (.int .i64 0)), none⟩])
 (.seq (.seq (.ops [⟨some 8, .move (.tmp 0), none⟩,
 ⟨some 9, .call ⟨.value (.func 100), #[.tmp 8], #[151]⟩, none⟩,
 ⟨some 10, .unOp .not 4 (.tmp 9), none⟩])
 (.cond (.tmp 10)
 (.seq (.ops [⟨some 2, .assign (.const (.int .u64 0)), none⟩,
 ⟨some 3, .assign (.const (.int .i64 1)), none⟩])
 .ret)
 .skip))
 (.seq (.draw [⟨some 11, .move (.tmp 0), none⟩,
 ⟨some 12, .nilCheck (.tmp 11), none⟩,
 ⟨some 13, .fieldAddr 168 (.tmp 12) 1, none⟩,
 ⟨some 14, .load 3 (.tmp 13), none⟩,
 ⟨some 4, .assign (.const (.int .u64 0)), none⟩,
 ⟨some 5, .assign (.tmp 14), none⟩] [])
 (.seq .skip
 (.seq (.seq (.ops [⟨some 6, .assign (.const (.int .u64 0)), none⟩])
 (.block 0 (.loop ir90_l0)))
 (.seq (.ops [⟨some 2, .assign (.const (.int .u64 0)), none⟩,
 ⟨some 3, .assign (.const (.int .i64 4)), none⟩])
 .ret))))))
theorem ir90_eq : (Try.f90.body.map low, Try.f90.ntmps, Try.f90.results.toList) = (some ir90, 61, [.tmp 2, .tmp 3]) := by kernel_rfl
def ir91_l0 : LC := (.seq (.seq (.ops [⟨some 18, .move (.tmp 6), none⟩,
 ⟨some 19, .move (.tmp 5), none⟩,
 ⟨some 20, .binOp .lss 3 (.tmp 18) (.tmp 19) 3, none⟩])
 (.cond (.tmp 20)
 .skip
 (.exit 0)))
 (.seq (.block 1 (.seq (.draw [⟨some 24, .load 32 (.tmp 1), none⟩,
 ⟨some 25, .nilCheck (.tmp 24), none⟩,
 ⟨some 26, .fieldAddr 47 (.tmp 25) 0, none⟩,
 ⟨some 27, .load 24 (.tmp 26), none⟩,
 ⟨some 28, .load 32 (.tmp 1), none⟩,
 ⟨some 29, .nilCheck (.tmp 28), none⟩,
 ⟨some 30, .fieldAddr 47 (.tmp 29) 3, none⟩,
 ⟨some 31, .fieldAddr 44 (.tmp 30) 2, none⟩,
 ⟨some 32, .load 42 (.tmp 31), none⟩,
 ⟨some 33, .indexAddr 86 (.tmp 4) (.tmp 32), none⟩,
 ⟨some 34, .load 3 (.tmp 33), none⟩,
 ⟨some 35, .move (.tmp 6), none⟩,
 ⟨some 36, .binOp .add 3 (.tmp 34) (.tmp 35) 3, none⟩,
 ⟨some 37, .call ⟨.value (.func 29), #[.tmp 27, .tmp 36], #[24, 3]⟩, none⟩,
 ⟨some 23, .move (.tmp 37), none⟩,
 ⟨some 38, .extract (.tmp 23) 0, none⟩,
 ⟨some 39, .extract (.tmp 23) 1, none⟩,
 ⟨some 7, .assign (.tmp 38), none⟩,
 ⟨some 8, .assign (.tmp 39), none⟩] [])
 (.seq (.ops [⟨some 41, .move (.tmp 7), none⟩,
 ⟨some 42, .call ⟨.value (.func 92), #[.tmp 41], #[22]⟩, none⟩,
 ⟨some 40, .move (.tmp 42), none⟩,
 ⟨some 43, .extract (.tmp 40) 0, none⟩,
 ⟨some 44, .extract (.tmp 40) 1, none⟩,
 ⟨some 45, .extract (.tmp 40) 2, none⟩,
 ⟨some 9, .alloc 90, none⟩,
 ⟨none, .store 90 (.tmp 9) (.tmp 43), none⟩,
 ⟨some 10, .assign (.tmp 44), none⟩,
 ⟨some 11, .assign (.tmp 45), none⟩])
 (.seq (.ops [⟨some 46, .move (.tmp 11), none⟩,
 ⟨some 47, .unOp .not 4 (.tmp 46), none⟩,
 ⟨some 48, .move (.tmp 47), none⟩,
 ⟨some 49, .move (.tmp 0), some (48, false)⟩,
 ⟨some 50, .load 90 (.tmp 9), some (48, false)⟩,
 ⟨some 51, .move (.tmp 10), some (48, false)⟩,
 ⟨some 52, .call ⟨.value (.tmp 49), #[.tmp 50, .tmp 51], #[90, 22]⟩, some (48, false)⟩,
 ⟨some 53, .unOp .not 4 (.tmp 52), some (48, false)⟩,
 ⟨some 54, .pick (.tmp 48) (.const (.bool true)) (.tmp 53), none⟩])
 (.cond (.tmp 54)
 .ret
 .skip)))))
 (.ops [⟨some 21, .move (.tmp 6), none⟩,
 ⟨some 22, .binOp .add 3 (.tmp 21) (.const (.int .i64 1)) 3, none⟩,
 ⟨some 6, .assign (.tmp 22), none⟩])))
def ir91 : LC := (.seq (.ops [⟨some 13, .load 32 (.tmp 1), none⟩,
 ⟨some 14, .call ⟨.value (.func 40), #[.tmp 13], #[32]⟩, none⟩,
 ⟨some 12, .move (.tmp 14), none⟩,
 ⟨some 15, .extract (.tmp 12) 0, none⟩,
 ⟨some 16, .extract (.tmp 12) 1, none⟩,
 ⟨some 4, .alloc 86, none⟩,
 ⟨none, .store 86 (.tmp 4) (.tmp 15), none⟩,
 ⟨some 5, .assign (.tmp 16), none⟩])
 (.seq (.ops [⟨some 17, .load 3 (.tmp 2), none⟩,
 ⟨some 6, .assign (.tmp 17), none⟩])
 (.block 0 (.loop ir91_l0))))
theorem ir91_eq : (Try.f91.body.map low, Try.f91.ntmps, Try.f91.results.toList) = (some ir91, 55, []) := by kernel_rfl
def ir92 : LC := (.seq (.ops [⟨some 2, .alloc 90, none⟩,
 ⟨some 3, .assign (.const (.slice none 0 0)), none⟩,
 ⟨some 4, .assign (.const (.bool false)), none⟩])
 (.seq (.draw [⟨some 8, .move (.tmp 0), none⟩,
 ⟨some 9, .slice 22 (.tmp 8) none (some (.const (.int .i64 8))) none, none⟩,
 ⟨some 10, .call ⟨.value (.func 101), #[.tmp 9], #[22]⟩, none⟩,
 ⟨some 11, .move (.tmp 0), none⟩,
 ⟨some 12, .slice 22 (.tmp 11) (some (.const (.int .i64 8))) (some (.const (.int .i64 16))) none, none⟩,
 ⟨some 13, .call ⟨.value (.func 101), #[.tmp 12], #[22]⟩, none⟩,
 ⟨some 14, .move (.tmp 0), none⟩,
 ⟨some 15, .indexAddr 22 (.tmp 14) (.const (.int .i64 16)), none⟩,
 ⟨some 16, .load 5 (.tmp 15), none⟩,
 ⟨some 17, .move (.tmp 0), none⟩,
 ⟨some 18, .indexAddr 22 (.tmp 17) (.const (.int .i64 17)), none⟩,
 ⟨some 19, .load 5 (.tmp 18), none⟩,
 ⟨some 20, .build 90 #[(0, .tmp 10), (1, .tmp 13), (2, .tmp 16), (3, .tmp 19)], none⟩,
 ⟨some 5, .alloc 90, none⟩,
 ⟨none, .store 90 (.tmp 5) (.tmp 20), none⟩] [(2, 3), (2, 4), (2, 6), (5, 6), (2, 7), (5, 7), (2, 8), (5, 8), (2, 9), (5, 9), (2, 10), (5, 10), (2, 11), (5, 11), (0, 13), (1, 13), (2, 13), (3, 13), (4, 13), (5, 13), (6, 13), (7, 13), (8, 13), (9, 13), (10, 13), (11, 13), (12, 13)])
 (.seq (.ops [⟨some 21, .move (.tmp 0), none⟩,
 ⟨some 22, .indexAddr 22 (.tmp 21) (.const (.int .i64 18)), none⟩,
 ⟨some 23, .load 5 (.tmp 22), none⟩,
 ⟨some 24, .convert 5 3 (.tmp 23), none⟩,
 ⟨some 6, .assign (.tmp 24), none⟩])
 (.seq (.seq (.ops [⟨some 25, .move (.tmp 6), none⟩,
 ⟨some 26, .binOp .gtr 3 (.tmp 25) (.const (.int .i64 108)) 3, none⟩,
 ⟨some 27, .move (.tmp 26), none⟩,
 ⟨some 28, .fieldAddr 90 (.tmp 5) 3, some (27, false)⟩,
 ⟨some 29, .load 5 (.tmp 28), some (27, false)⟩,
 ⟨some 30, .binOp .lss 5 (.tmp 29) (.const (.int .u8 1)) 5, some (27, false)⟩,
 ⟨some 31, .pick (.tmp 27) (.const (.bool true)) (.tmp 30), none⟩,
 ⟨some 32, .move (.tmp 31), none⟩,
 ⟨some 33, .fieldAddr 90 (.tmp 5) 3, some (32, false)⟩,
 ⟨some 34, .load 5 (.tmp 33), some (32, false)⟩,
 ⟨some 35, .binOp .gtr 5 (.tmp 34) (.const (.int .u8 64)) 5, some (32, false)⟩,
 ⟨some 36, .pick (.tmp 32) (.const (.bool true)) (.tmp 35), none⟩,
 ⟨some 37, .move (.tmp 36), none⟩,
 ⟨some 38, .fieldAddr 90 (.tmp 5) 2, some (37, false)⟩,
 ⟨some 39, .load 5 (.tmp 38), some (37, false)⟩,
 ⟨some 40, .fieldAddr 90 (.tmp 5) 3, some (37, false)⟩,
 ⟨some 41, .load 5 (.tmp 40), some (37, false)⟩,
 ⟨some 42, .binOp .geq 5 (.tmp 39) (.tmp 41) 5, some (37, false)⟩,
 ⟨some 43, .pick (.tmp 37) (.const (.bool true)) (.tmp 42), none⟩,
 ⟨some 44, .move (.tmp 43), none⟩,
 ⟨some 45, .fieldAddr 90 (.tmp 5) 2, some (44, false)⟩,
 ⟨some 46, .load 5 (.tmp 45), some (44, false)⟩,
 ⟨some 47, .binOp .add 5 (.tmp 46) (.const (.int .u8 1)) 5, some (44, false)⟩,
 ⟨some 48, .fieldAddr 90 (.tmp 5) 3, some (44, false)⟩,
 ⟨some 49, .load 5 (.tmp 48), some (44, false)⟩,
 ⟨some 50, .binOp .lss 5 (.tmp 47) (.tmp 49) 5, some (44, false)⟩,
 ⟨some 51, .move (.tmp 50), some (44, false)⟩,
 ⟨some 52, .move (.tmp 6), some (51, true)⟩,
 ⟨some 53, .binOp .neq 3 (.tmp 52) (.const (.int .i64 108)) 3, some (51, true)⟩,
 ⟨some 54, .pick (.tmp 51) (.tmp 53) (.const (.bool false)), some (44, false)⟩,
 ⟨some 55, .pick (.tmp 44) (.const (.bool true)) (.tmp 54), none⟩,
 ⟨some 56, .move (.tmp 55), none⟩,
 ⟨some 57, .fieldAddr 90 (.tmp 5) 3, some (56, false)⟩,
 ⟨some 58, .load 5 (.tmp 57), some (56, false)⟩,
 ⟨some 59, .binOp .gtr 5 (.tmp 58) (.const (.int .u8 1)) 5, some (56, false)⟩,
 ⟨some 60, .move (.tmp 59), some (56, false)⟩,
 ⟨some 61, .move (.tmp 6), some (60, true)⟩,
 ⟨some 62, .binOp .eql 3 (.tmp 61) (.const (.int .i64 0)) 3, some (60, true)⟩,
 ⟨some 63, .pick (.tmp 60) (.tmp 62) (.const (.bool false)), some (56, false)⟩,
 ⟨some 64, .pick (.tmp 56) (.const (.bool true)) (.tmp 63), none⟩])
 (.cond (.tmp 64)
 (.seq (.ops [⟨some 65, .build 90 #[], none⟩,
 ⟨none, .store 90 (.tmp 2) (.tmp 65), none⟩,
 ⟨some 3, .assign (.const (.slice none 0 0)), none⟩,
 ⟨some 4, .assign (.const (.bool false)), none⟩])
 .ret)
 .skip))
 (.seq (.ops [⟨some 66, .move (.tmp 0), none⟩,
 ⟨some 67, .move (.tmp 6), none⟩,
 ⟨some 68, .binOp .add 3 (.const (.int .i64 19)) (.tmp 67) 3, none⟩,
 ⟨some 69, .slice 22 (.tmp 66) (some (.const (.int .i64 19))) (some (.tmp 68)) none, none⟩,
 ⟨some 70, .call ⟨.value (.func 42), #[.tmp 69], #[22]⟩, none⟩,
 ⟨some 7, .assign (.tmp 70), none⟩])
 (.seq (.draw [⟨some 71, .load 90 (.tmp 5), none⟩,
 ⟨some 72, .move (.tmp 7), none⟩,
 ⟨some 73, .load 90 (.tmp 5), none⟩,
 ⟨some 74, .move (.tmp 7), none⟩,
 ⟨some 75, .call ⟨.value (.func 41), #[.tmp 73, .tmp 74], #[90, 22]⟩, none⟩,
 ⟨some 76, .move (.tmp 0), none⟩,
 ⟨some 77, .call ⟨.value (.func 67), #[.tmp 75, .tmp 76], #[22, 22]⟩, none⟩,
 ⟨none, .store 90 (.tmp 2) (.tmp 71), none⟩,
 ⟨some 3, .assign (.tmp 72), none⟩,
 ⟨some 4, .assign (.tmp 77), none⟩] [(0, 4), (1, 4), (4, 5), (0, 6), (1, 6), (1, 7)])
 .ret))))))
theorem ir92_eq : (Try.f92.body.map low, Try.f92.ntmps, Try.f92.results.toList) = (some ir92, 78, [.cell 2 90, .tmp 3, .tmp 4]) := by kernel_rfl
def ir93_l0 : LC := (.seq (.seq (.ops [⟨some 5, .move (.tmp 0), none⟩,
 ⟨some 6, .binOp .gtr 42 (.tmp 5) (.const (.int .u64 127)) 42, none⟩])
 (.cond (.tmp 6)
 .skip
 (.exit 0)))
 (.seq (.block 1 (.ops [⟨some 9, .move (.tmp 3), none⟩,
 ⟨some 10, .move (.tmp 0), none⟩,
 ⟨some 11, .convert 42 5 (.tmp 10), none⟩,
 ⟨some 12, .binOp .or 5 (.tmp 11) (.const (.int .u8 128)) 5, none⟩,
 ⟨some 13, .buildSlice 22 1 #[(0, .tmp 12)], none⟩,
 ⟨some 14, .call ⟨.builtin .append, #[.tmp 9, .tmp 13], #[22, 22]⟩, none⟩,
 ⟨some 3, .assign (.tmp 14), none⟩]))
 (.ops [⟨some 7, .move (.tmp 0), none⟩,
 ⟨some 8, .binOp .shr 42 (.tmp 7) (.const (.int .u64 7)) 169, none⟩,
 ⟨some 0, .assign (.tmp 8), none⟩])))
def ir93 : LC := (.seq (.ops [⟨some 2, .assign (.const (.slice none 0 0)), none⟩])
 (.seq (.ops [⟨some 4, .makeSlice 22 (.const (.int .i64 0)) (.const (.int .i64 10)), none⟩,
 ⟨some 3, .assign (.tmp 4), none⟩])
 (.seq (.block 0 (.loop ir93_l0))
 (.seq (.ops [⟨some 15, .move (.tmp 3), none⟩,
 ⟨some 16, .move (.tmp 0), none⟩,
 ⟨some 17, .convert 42 5 (.tmp 16), none⟩,
 ⟨some 18, .buildSlice 22 1 #[(0, .tmp 17)], none⟩,
 ⟨some 19, .call ⟨.builtin .append, #[.tmp 15, .tmp 18], #[22, 22]⟩, none⟩,
 ⟨some 2, .assign (.tmp 19), none⟩])
 .ret))))
theorem ir93_eq : (Try.f93.body.map low, Try.f93.ntmps, Try.f93.results.toList) = (some ir93, 20, [.tmp 2]) := by kernel_rfl
def ir100 : LC := (.seq (.ops [⟨some 2, .assign (.const (.bool false)), none⟩])
 (.seq (.ops [⟨some 3, .move (.tmp 0), none⟩,
 ⟨some 4, .binOp .neq 151 (.tmp 3) (.const (.pointer none)) 151, none⟩,
 ⟨some 5, .move (.tmp 4), none⟩,
 ⟨some 6, .move (.tmp 0), some (5, true)⟩,
 ⟨some 7, .nilCheck (.tmp 6), some (5, true)⟩,
 ⟨some 8, .fieldAddr 168 (.tmp 7) 0, some (5, true)⟩,
 ⟨some 9, .load 22 (.tmp 8), some (5, true)⟩,
 ⟨some 10, .binOp .neq 22 (.tmp 9) (.const (.slice none 0 0)) 22, some (5, true)⟩,
 ⟨some 11, .pick (.tmp 5) (.tmp 10) (.const (.bool false)), none⟩,
 ⟨some 2, .assign (.tmp 11), none⟩])
 .ret))
theorem ir100_eq : (Try.f100.body.map low, Try.f100.ntmps, Try.f100.results.toList) = (some ir100, 12, [.tmp 2]) := by kernel_rfl
def ir101_l0 : LC := (.seq (.ops [⟨some 9, .binOp .lss 3 (.tmp 8) (.tmp 7) 3, none⟩])
 (.seq (.cond (.tmp 9)
 .skip
 (.exit 0))
 (.seq (.block 1 (.seq (.ops [⟨some 10, .indexAddr 22 (.tmp 6) (.tmp 8), none⟩,
 ⟨some 11, .load 5 (.tmp 10), none⟩,
 ⟨some 5, .assign (.tmp 11), none⟩])
 (.ops [⟨some 12, .move (.tmp 3), none⟩,
 ⟨some 13, .binOp .shl 42 (.tmp 12) (.const (.int .u64 8)) 169, none⟩,
 ⟨some 14, .move (.tmp 5), none⟩,
 ⟨some 15, .convert 5 42 (.tmp 14), none⟩,
 ⟨some 16, .binOp .or 42 (.tmp 13) (.tmp 15) 42, none⟩,
 ⟨some 3, .assign (.tmp 16), none⟩])))
 (.ops [⟨some 17, .binOp .add 3 (.tmp 8) (.const (.int .i64 1)) 3, none⟩,
 ⟨some 8, .move (.tmp 17), none⟩]))))
def ir101 : LC := (.seq (.ops [⟨some 2, .assign (.const (.int .u64 0)), none⟩])
 (.seq (.ops [⟨some 3, .assign (.const (.int .u64 0)), none⟩])
 (.seq (.seq (.ops [⟨some 6, .move (.tmp 0), none⟩,
 ⟨some 7, .call ⟨.builtin .len, #[.tmp 6], #[22]⟩, none⟩,
 ⟨some 8, .move (.const (.int .i64 0)), none⟩])
 (.block 0 (.loop ir101_l0)))
 (.seq (.ops [⟨some 18, .move (.tmp 3), none⟩,
 ⟨some 2, .assign (.tmp 18), none⟩])
 .ret))))
theorem ir101_eq : (Try.f101.body.map low, Try.f101.ntmps, Try.f101.results.toList) = (some ir101, 19, [.tmp 2]) := by kernel_rfl



end Go.Proofs.Ytakgjjbmniilhaa
