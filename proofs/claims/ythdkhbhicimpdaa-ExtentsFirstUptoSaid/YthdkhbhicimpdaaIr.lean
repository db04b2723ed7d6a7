/- The code of this seat struck bare (printed by program). -/
import Derived.Test.YthdkhbhicimpdaaProg
import Derived.Test.YthdkhbhicimpdaaV4
import Derived.KernelRfl
set_option linter.unusedVariables false
set_option maxRecDepth 100000
namespace Go.Proofs.Ythdkhbhicimpdaa
open Go Go.Vm
def ir8_l0 : LC := (.seq (.seq (.ops [⟨some 9, .move (.tmp 8), none⟩,
 ⟨some 10, .move (.tmp 2), none⟩,
 ⟨some 11, .call ⟨.builtin .len, #[.tmp 10], #[36]⟩, none⟩,
 ⟨some 12, .binOp .lss 3 (.tmp 9) (.tmp 11) 3, none⟩,
 ⟨some 13, .move (.tmp 12), none⟩,
 ⟨some 14, .move (.tmp 8), some (13, true)⟩,
 ⟨some 15, .binOp .lss 3 (.tmp 14) (.const (.int .i64 60)) 3, some (13, true)⟩,
 ⟨some 16, .pick (.tmp 13) (.tmp 15) (.const (.bool false)), none⟩])
 (.cond (.tmp 16)
 .skip
 (.exit 0)))
 (.seq (.block 1 (.draw [⟨some 19, .move (.tmp 7), none⟩,
 ⟨some 20, .move (.tmp 2), none⟩,
 ⟨some 21, .move (.tmp 8), none⟩,
 ⟨some 22, .indexAddr 36 (.tmp 20) (.tmp 21), none⟩,
 ⟨some 23, .fieldAddr 48 (.tmp 22) 4, none⟩,
 ⟨some 24, .load 45 (.tmp 23), none⟩,
 ⟨some 25, .call ⟨.builtin .len, #[.tmp 24], #[45]⟩, none⟩,
 ⟨some 26, .call ⟨.builtin .min, #[.tmp 25, .const (.int .i64 9000)], #[3, 3]⟩, none⟩,
 ⟨some 27, .binOp .add 3 (.tmp 19) (.tmp 26) 3, none⟩,
 ⟨some 28, .move (.tmp 2), none⟩,
 ⟨some 29, .move (.tmp 8), none⟩,
 ⟨some 30, .indexAddr 36 (.tmp 28) (.tmp 29), none⟩,
 ⟨some 31, .fieldAddr 48 (.tmp 30) 5, none⟩,
 ⟨some 32, .load 46 (.tmp 31), none⟩,
 ⟨some 33, .call ⟨.builtin .len, #[.tmp 32], #[46]⟩, none⟩,
 ⟨some 34, .call ⟨.builtin .min, #[.tmp 33, .const (.int .i64 9000)], #[3, 3]⟩, none⟩,
 ⟨some 35, .binOp .add 3 (.tmp 27) (.tmp 34) 3, none⟩,
 ⟨some 7, .assign (.tmp 35), none⟩] []))
 (.ops [⟨some 17, .move (.tmp 8), none⟩,
 ⟨some 18, .binOp .add 3 (.tmp 17) (.const (.int .i64 1)) 3, none⟩,
 ⟨some 8, .assign (.tmp 18), none⟩])))
def ir8 : LC := (.seq (.ops [⟨some 6, .assign (.const (.bool false)), none⟩])
 (.seq (.ops [⟨some 7, .assign (.const (.int .i64 0)), none⟩])
 (.seq (.seq (.ops [⟨some 8, .assign (.const (.int .i64 0)), none⟩])
 (.block 0 (.loop ir8_l0)))
 (.seq (.ops [⟨some 36, .move (.tmp 0), none⟩,
 ⟨some 37, .binOp .gtr 3 (.tmp 36) (.const (.int .i64 64)) 3, none⟩,
 ⟨some 38, .move (.tmp 37), none⟩,
 ⟨some 39, .move (.tmp 0), some (38, true)⟩,
 ⟨some 40, .binOp .leq 3 (.tmp 39) (.const (.int .i64 4096)) 3, some (38, true)⟩,
 ⟨some 41, .pick (.tmp 38) (.tmp 40) (.const (.bool false)), none⟩,
 ⟨some 42, .move (.tmp 41), none⟩,
 ⟨some 43, .move (.tmp 1), some (42, false)⟩,
 ⟨some 44, .call ⟨.builtin .len, #[.tmp 43], #[22]⟩, some (42, false)⟩,
 ⟨some 45, .binOp .gtr 3 (.tmp 44) (.const (.int .i64 20)) 3, some (42, false)⟩,
 ⟨some 46, .pick (.tmp 42) (.const (.bool true)) (.tmp 45), none⟩,
 ⟨some 47, .move (.tmp 46), none⟩,
 ⟨some 48, .move (.tmp 7), some (47, false)⟩,
 ⟨some 49, .binOp .gtr 3 (.tmp 48) (.const (.int .i64 60000)) 3, some (47, false)⟩,
 ⟨some 50, .pick (.tmp 47) (.const (.bool true)) (.tmp 49), none⟩,
 ⟨some 6, .assign (.tmp 50), none⟩])
 .ret))))
theorem ir8_eq : (Try.f8.body.map low, Try.f8.ntmps, Try.f8.results.toList) = (some ir8, 51, [.tmp 6]) := by kernel_rfl
def ir13 : LC := (.seq (.ops [⟨some 2, .assign (.const (.pointer none)), none⟩,
 ⟨some 3, .assign (.const (.int .i64 0)), none⟩])
 (.seq (.seq (.ops [⟨some 4, .move (.tmp 0), none⟩,
 ⟨some 5, .binOp .lss 3 (.tmp 4) (.const (.int .i64 1)) 3, none⟩,
 ⟨some 6, .move (.tmp 5), none⟩,
 ⟨some 7, .move (.tmp 0), some (6, false)⟩,
 ⟨some 8, .binOp .gtr 3 (.tmp 7) (.const (.int .i64 4096)) 3, some (6, false)⟩,
 ⟨some 9, .pick (.tmp 6) (.const (.bool true)) (.tmp 8), none⟩])
 (.cond (.tmp 9)
 (.seq (.ops [⟨some 2, .assign (.const (.pointer none)), none⟩,
 ⟨some 3, .assign (.const (.int .i64 2)), none⟩])
 .ret)
 .skip))
 (.seq (.ops [⟨some 10, .move (.tmp 0), none⟩,
 ⟨some 11, .makeSlice 85 (.tmp 10) (.tmp 10), none⟩,
 ⟨some 12, .makeMap 86 none, none⟩,
 ⟨some 13, .build 88 #[(0, .tmp 11), (1, .tmp 12)], none⟩,
 ⟨some 14, .box 88 (.tmp 13), none⟩,
 ⟨some 2, .assign (.tmp 14), none⟩,
 ⟨some 3, .assign (.const (.int .i64 0)), none⟩])
 .ret)))
theorem ir13_eq : (Try.f13.body.map low, Try.f13.ntmps, Try.f13.results.toList) = (some ir13, 15, [.tmp 2, .tmp 3]) := by kernel_rfl
def ir14_l0 : LC := (.seq (.ops [⟨some 30, .binOp .lss 3 (.tmp 29) (.tmp 28) 3, none⟩])
 (.seq (.cond (.tmp 30)
 .skip
 (.exit 0))
 (.seq (.block 1 (.seq (.ops [⟨some 31, .move (.tmp 29), none⟩,
 ⟨some 32, .indexAddr 22 (.tmp 27) (.tmp 29), none⟩,
 ⟨some 33, .load 3 (.tmp 32), none⟩,
 ⟨some 9, .assign (.tmp 31), none⟩,
 ⟨some 10, .assign (.tmp 33), none⟩])
 (.seq (.block 2 (.seq (.ops [⟨some 35, .move (.tmp 10), none⟩,
 ⟨some 36, .binOp .lss 3 (.tmp 35) (.const (.int .i64 0)) 3, none⟩,
 ⟨some 34, .assign (.tmp 36), none⟩])
 (.cond (.tmp 34)
 (.seq (.ops [⟨some 4, .assign (.const (.pointer none)), none⟩,
 ⟨some 5, .assign (.const (.int .i64 2)), none⟩])
 .ret)
 (.seq (.ops [⟨some 38, .move (.tmp 10), none⟩,
 ⟨some 39, .move (.tmp 0), none⟩,
 ⟨some 40, .call ⟨.value (.func 41), #[.tmp 39], #[26]⟩, none⟩,
 ⟨some 41, .move (.tmp 7), none⟩,
 ⟨some 42, .binOp .sub 3 (.tmp 40) (.tmp 41) 3, none⟩,
 ⟨some 43, .binOp .gtr 3 (.tmp 38) (.tmp 42) 3, none⟩,
 ⟨some 37, .assign (.tmp 43), none⟩])
 (.cond (.tmp 37)
 (.seq (.ops [⟨some 8, .assign (.const (.bool true)), none⟩])
 (.exit 1))
 .skip)))))
 (.seq (.draw [⟨some 44, .move (.tmp 6), none⟩,
 ⟨some 45, .move (.tmp 9), none⟩,
 ⟨some 46, .move (.tmp 7), none⟩,
 ⟨some 47, .move (.tmp 10), none⟩,
 ⟨some 48, .move (.tmp 10), none⟩,
 ⟨some 49, .binOp .shr 3 (.tmp 48) (.const (.int .u64 6)) 90, none⟩,
 ⟨some 50, .binOp .add 3 (.tmp 49) (.const (.int .i64 1)) 3, none⟩,
 ⟨some 51, .makeSlice 55 (.tmp 50) (.tmp 50), none⟩,
 ⟨some 52, .build 57 #[(0, .tmp 46), (1, .tmp 47), (2, .tmp 51)], none⟩,
 ⟨some 53, .nilCheck (.tmp 44), none⟩,
 ⟨some 54, .fieldAddr 60 (.tmp 53) 1, none⟩,
 ⟨some 55, .indexAddr 58 (.tmp 54) (.tmp 45), none⟩,
 ⟨none, .store 57 (.tmp 55) (.tmp 52), none⟩] [(0, 7), (1, 7), (2, 7), (3, 7), (7, 9), (7, 10)])
 (.ops [⟨some 56, .move (.tmp 7), none⟩,
 ⟨some 57, .move (.tmp 10), none⟩,
 ⟨some 58, .binOp .add 3 (.tmp 56) (.tmp 57) 3, none⟩,
 ⟨some 7, .assign (.tmp 58), none⟩])))))
 (.ops [⟨some 59, .binOp .add 3 (.tmp 29) (.const (.int .i64 1)) 3, none⟩,
 ⟨some 29, .move (.tmp 59), none⟩]))))
def ir14 : LC := (.seq (.ops [⟨some 4, .assign (.const (.pointer none)), none⟩,
 ⟨some 5, .assign (.const (.int .i64 0)), none⟩])
 (.seq (.seq (.ops [⟨some 11, .move (.tmp 0), none⟩,
 ⟨some 12, .call ⟨.value (.func 41), #[.tmp 11], #[26]⟩, none⟩,
 ⟨some 13, .binOp .eql 3 (.tmp 12) (.const (.int .i64 0)) 3, none⟩])
 (.cond (.tmp 13)
 (.seq (.ops [⟨some 4, .assign (.const (.pointer none)), none⟩,
 ⟨some 5, .assign (.const (.int .i64 1)), none⟩])
 .ret)
 .skip))
 (.seq (.seq (.ops [⟨some 14, .move (.tmp 1), none⟩,
 ⟨some 15, .call ⟨.builtin .len, #[.tmp 14], #[22]⟩, none⟩,
 ⟨some 16, .binOp .eql 3 (.tmp 15) (.const (.int .i64 0)) 3, none⟩,
 ⟨some 17, .move (.tmp 16), none⟩,
 ⟨some 18, .move (.tmp 1), some (17, false)⟩,
 ⟨some 19, .call ⟨.builtin .len, #[.tmp 18], #[22]⟩, some (17, false)⟩,
 ⟨some 20, .binOp .gtr 3 (.tmp 19) (.const (.int .i64 8)) 3, some (17, false)⟩,
 ⟨some 21, .pick (.tmp 17) (.const (.bool true)) (.tmp 20), none⟩])
 (.cond (.tmp 21)
 (.seq (.ops [⟨some 4, .assign (.const (.pointer none)), none⟩,
 ⟨some 5, .assign (.const (.int .i64 2)), none⟩])
 .ret)
 .skip))
 (.seq (.ops [⟨some 22, .move (.tmp 0), none⟩,
 ⟨some 23, .move (.tmp 1), none⟩,
 ⟨some 24, .call ⟨.builtin .len, #[.tmp 23], #[22]⟩, none⟩,
 ⟨some 25, .build 60 #[(0, .tmp 22), (2, .tmp 24)], none⟩,
 ⟨some 26, .box 60 (.tmp 25), none⟩,
 ⟨some 6, .assign (.tmp 26), none⟩])
 (.seq (.ops [⟨some 7, .assign (.const (.int .i64 0)), none⟩,
 ⟨some 8, .assign (.const (.bool false)), none⟩])
 (.seq (.seq (.ops [⟨some 27, .move (.tmp 1), none⟩,
 ⟨some 28, .call ⟨.builtin .len, #[.tmp 27], #[22]⟩, none⟩,
 ⟨some 29, .move (.const (.int .i64 0)), none⟩])
 (.block 0 (.loop ir14_l0)))
 (.seq (.seq (.ops [⟨some 60, .move (.tmp 8), none⟩])
 (.cond (.tmp 60)
 (.seq (.ops [⟨some 4, .assign (.const (.pointer none)), none⟩,
 ⟨some 5, .assign (.const (.int .i64 5)), none⟩])
 .ret)
 .skip))
 (.seq (.ops [⟨some 61, .move (.tmp 6), none⟩,
 ⟨some 4, .assign (.tmp 61), none⟩,
 ⟨some 5, .assign (.const (.int .i64 0)), none⟩])
 .ret))))))))
theorem ir14_eq : (Try.f14.body.map low, Try.f14.ntmps, Try.f14.results.toList) = (some ir14, 62, [.tmp 4, .tmp 5]) := by kernel_rfl
def ir15 : LC := (.seq (.ops [⟨some 2, .assign (.const (.int .i64 0)), none⟩])
 (.seq (.ops [⟨some 3, .move (.tmp 0), none⟩,
 ⟨some 2, .assign (.tmp 3), none⟩])
 .ret))
theorem ir15_eq : (Try.f15.body.map low, Try.f15.ntmps, Try.f15.results.toList) = (some ir15, 4, [.tmp 2]) := by kernel_rfl
def ir16 : LC := (.seq (.seq (.ops [⟨some 8, .move (.tmp 2), none⟩,
 ⟨some 9, .move (.tmp 1), none⟩,
 ⟨some 10, .call ⟨.builtin .len, #[.tmp 9], #[36]⟩, none⟩,
 ⟨some 11, .binOp .geq 3 (.tmp 8) (.tmp 10) 3, none⟩])
 (.cond (.tmp 11)
 .ret
 .skip))
 (.seq (.ops [⟨some 12, .move (.tmp 1), none⟩,
 ⟨some 13, .move (.tmp 2), none⟩,
 ⟨some 14, .indexAddr 36 (.tmp 12) (.tmp 13), none⟩,
 ⟨some 15, .load 48 (.tmp 14), none⟩,
 ⟨some 6, .alloc 48, none⟩,
 ⟨none, .store 48 (.tmp 6) (.tmp 15), none⟩])
 (.seq (.ops [⟨some 16, .fieldAddr 48 (.tmp 6) 1, none⟩,
 ⟨some 17, .load 3 (.tmp 16), none⟩,
 ⟨some 18, .binOp .and 3 (.tmp 17) (.const (.int .i64 1)) 3, none⟩,
 ⟨some 19, .binOp .mul 3 (.tmp 18) (.const (.int .i64 2)) 3, none⟩,
 ⟨some 7, .assign (.tmp 19), none⟩])
 (.seq (.ops [⟨some 20, .fieldAddr 48 (.tmp 6) 0, none⟩,
 ⟨some 21, .load 3 (.tmp 20), none⟩])
 (.block 0 (.seq (.ops [⟨some 23, .binOp .eql 3 (.tmp 21) (.const (.int .i64 1)) 3, none⟩,
 ⟨some 22, .assign (.tmp 23), none⟩])
 (.cond (.tmp 22)
 (.ops [⟨some 24, .move (.tmp 0), none⟩,
 ⟨some 25, .move (.tmp 7), none⟩,
 ⟨some 26, .fieldAddr 48 (.tmp 6) 2, none⟩,
 ⟨some 27, .load 3 (.tmp 26), none⟩,
 ⟨some 28, .call ⟨.value (.func 19), #[.tmp 24, .tmp 25, .tmp 27], #[25, 3, 3]⟩, none⟩])
 (.seq (.ops [⟨some 30, .binOp .eql 3 (.tmp 21) (.const (.int .i64 2)) 3, none⟩,
 ⟨some 29, .assign (.tmp 30), none⟩])
 (.cond (.tmp 29)
 (.ops [⟨some 31, .move (.tmp 0), none⟩,
 ⟨some 32, .move (.tmp 7), none⟩,
 ⟨some 33, .fieldAddr 48 (.tmp 6) 2, none⟩,
 ⟨some 34, .load 3 (.tmp 33), none⟩,
 ⟨some 35, .fieldAddr 48 (.tmp 6) 3, none⟩,
 ⟨some 36, .load 3 (.tmp 35), none⟩,
 ⟨some 37, .call ⟨.value (.func 20), #[.tmp 31, .tmp 32, .tmp 34, .tmp 36], #[25, 3, 3, 3]⟩, none⟩])
 (.seq (.ops [⟨some 39, .binOp .eql 3 (.tmp 21) (.const (.int .i64 3)) 3, none⟩,
 ⟨some 38, .assign (.tmp 39), none⟩])
 (.cond (.tmp 38)
 (.ops [⟨some 40, .move (.tmp 0), none⟩,
 ⟨some 41, .move (.tmp 7), none⟩,
 ⟨some 42, .fieldAddr 48 (.tmp 6) 2, none⟩,
 ⟨some 43, .load 3 (.tmp 42), none⟩,
 ⟨some 44, .fieldAddr 48 (.tmp 6) 4, none⟩,
 ⟨some 45, .load 45 (.tmp 44), none⟩,
 ⟨some 46, .call ⟨.value (.func 26), #[.tmp 40, .tmp 41, .tmp 43, .tmp 45], #[25, 3, 3, 45]⟩, none⟩])
 (.seq (.ops [⟨some 48, .binOp .eql 3 (.tmp 21) (.const (.int .i64 4)) 3, none⟩,
 ⟨some 47, .assign (.tmp 48), none⟩])
 (.cond (.tmp 47)
 (.ops [⟨some 49, .move (.tmp 0), none⟩,
 ⟨some 50, .move (.tmp 7), none⟩,
 ⟨some 51, .call ⟨.value (.func 28), #[.tmp 49, .tmp 50], #[25, 3]⟩, none⟩])
 .skip)))))))))))))
theorem ir16_eq : (Try.f16.body.map low, Try.f16.ntmps, Try.f16.results.toList) = (some ir16, 52, []) := by kernel_rfl
def ir17_l0 : LC := (.seq (.seq (.ops [⟨some 92, .move (.tmp 12), none⟩,
 ⟨some 93, .binOp .lss 3 (.tmp 92) (.const (.int .i64 8)) 3, none⟩])
 (.cond (.tmp 93)
 .skip
 (.exit 1)))
 (.seq (.block 2 (.seq (.ops [⟨some 97, .move (.tmp 0), none⟩,
 ⟨some 98, .move (.tmp 12), none⟩,
 ⟨some 99, .call ⟨.value (.func 42), #[.tmp 97, .const (.int .i64 1), .tmp 98], #[25, 3, 3]⟩, none⟩,
 ⟨some 96, .move (.tmp 99), none⟩,
 ⟨some 100, .extract (.tmp 96) 0, none⟩,
 ⟨some 101, .extract (.tmp 96) 1, none⟩,
 ⟨some 13, .assign (.tmp 100), none⟩,
 ⟨some 14, .assign (.tmp 101), none⟩])
 (.seq (.ops [⟨some 103, .move (.tmp 1), none⟩,
 ⟨some 104, .move (.tmp 12), none⟩,
 ⟨some 105, .call ⟨.value (.func 42), #[.tmp 103, .const (.int .i64 1), .tmp 104], #[25, 3, 3]⟩, none⟩,
 ⟨some 102, .move (.tmp 105), none⟩,
 ⟨some 106, .extract (.tmp 102) 0, none⟩,
 ⟨some 107, .extract (.tmp 102) 1, none⟩,
 ⟨some 15, .assign (.tmp 106), none⟩,
 ⟨some 16, .assign (.tmp 107), none⟩])
 (.seq (.ops [⟨some 109, .move (.tmp 0), none⟩,
 ⟨some 110, .call ⟨.value (.func 38), #[.tmp 109], #[25]⟩, none⟩,
 ⟨some 111, .move (.tmp 12), none⟩,
 ⟨some 112, .binOp .add 3 (.const (.int .i64 8)) (.tmp 111) 3, none⟩,
 ⟨some 113, .call ⟨.value (.func 43), #[.tmp 110, .tmp 112], #[26, 3]⟩, none⟩,
 ⟨some 108, .move (.tmp 113), none⟩,
 ⟨some 114, .extract (.tmp 108) 0, none⟩,
 ⟨some 115, .extract (.tmp 108) 1, none⟩,
 ⟨some 17, .assign (.tmp 114), none⟩,
 ⟨some 18, .assign (.tmp 115), none⟩])
 (.seq (.ops [⟨some 117, .move (.tmp 1), none⟩,
 ⟨some 118, .call ⟨.value (.func 38), #[.tmp 117], #[25]⟩, none⟩,
 ⟨some 119, .move (.tmp 12), none⟩,
 ⟨some 120, .binOp .add 3 (.const (.int .i64 8)) (.tmp 119) 3, none⟩,
 ⟨some 121, .call ⟨.value (.func 43), #[.tmp 118, .tmp 120], #[26, 3]⟩, none⟩,
 ⟨some 116, .move (.tmp 121), none⟩,
 ⟨some 122, .extract (.tmp 116) 0, none⟩,
 ⟨some 123, .extract (.tmp 116) 1, none⟩,
 ⟨some 19, .assign (.tmp 122), none⟩,
 ⟨some 20, .assign (.tmp 123), none⟩])
 (.seq (.ops [⟨some 124, .move (.tmp 13), none⟩,
 ⟨some 125, .convert 45 9 (.tmp 124), none⟩,
 ⟨some 126, .move (.tmp 15), none⟩,
 ⟨some 127, .convert 45 9 (.tmp 126), none⟩,
 ⟨some 128, .binOp .neq 9 (.tmp 125) (.tmp 127) 9, none⟩,
 ⟨some 129, .move (.tmp 128), none⟩,
 ⟨some 130, .move (.tmp 14), some (129, false)⟩,
 ⟨some 131, .call ⟨.value (.func 15), #[.tmp 130], #[37]⟩, some (129, false)⟩,
 ⟨some 132, .move (.tmp 16), some (129, false)⟩,
 ⟨some 133, .call ⟨.value (.func 15), #[.tmp 132], #[37]⟩, some (129, false)⟩,
 ⟨some 134, .binOp .neq 3 (.tmp 131) (.tmp 133) 3, some (129, false)⟩,
 ⟨some 135, .pick (.tmp 129) (.const (.bool true)) (.tmp 134), none⟩,
 ⟨some 136, .move (.tmp 135), none⟩,
 ⟨some 137, .move (.tmp 17), some (136, false)⟩,
 ⟨some 138, .convert 45 9 (.tmp 137), some (136, false)⟩,
 ⟨some 139, .move (.tmp 19), some (136, false)⟩,
 ⟨some 140, .convert 45 9 (.tmp 139), some (136, false)⟩,
 ⟨some 141, .binOp .neq 9 (.tmp 138) (.tmp 140) 9, some (136, false)⟩,
 ⟨some 142, .pick (.tmp 136) (.const (.bool true)) (.tmp 141), none⟩,
 ⟨some 143, .move (.tmp 142), none⟩,
 ⟨some 144, .move (.tmp 0), some (143, false)⟩,
 ⟨some 145, .call ⟨.value (.func 38), #[.tmp 144], #[25]⟩, some (143, false)⟩,
 ⟨some 146, .move (.tmp 12), some (143, false)⟩,
 ⟨some 147, .binOp .add 3 (.const (.int .i64 8)) (.tmp 146) 3, some (143, false)⟩,
 ⟨some 148, .call ⟨.value (.func 29), #[.tmp 145, .tmp 147], #[26, 3]⟩, some (143, false)⟩,
 ⟨some 149, .move (.tmp 1), some (143, false)⟩,
 ⟨some 150, .call ⟨.value (.func 38), #[.tmp 149], #[25]⟩, some (143, false)⟩,
 ⟨some 151, .move (.tmp 12), some (143, false)⟩,
 ⟨some 152, .binOp .add 3 (.const (.int .i64 8)) (.tmp 151) 3, some (143, false)⟩,
 ⟨some 153, .call ⟨.value (.func 29), #[.tmp 150, .tmp 152], #[26, 3]⟩, some (143, false)⟩,
 ⟨some 154, .binOp .neq 3 (.tmp 148) (.tmp 153) 3, some (143, false)⟩,
 ⟨some 155, .pick (.tmp 143) (.const (.bool true)) (.tmp 154), none⟩])
 (.cond (.tmp 155)
 (.seq (.ops [⟨some 6, .assign (.const (.bool false)), none⟩])
 .ret)
 .skip)))))))
 (.ops [⟨some 94, .move (.tmp 12), none⟩,
 ⟨some 95, .binOp .add 3 (.tmp 94) (.const (.int .i64 1)) 3, none⟩,
 ⟨some 12, .assign (.tmp 95), none⟩])))
def ir17 : LC := (.seq (.ops [⟨some 5, .box 48 (.tmp 2), none⟩,
 ⟨some 6, .assign (.const (.bool false)), none⟩])
 (.seq (.ops [⟨some 7, .assign (.const (.bool true)), none⟩])
 (.seq (.seq (.ops [⟨some 21, .fieldAddr 48 (.tmp 5) 0, none⟩,
 ⟨some 22, .load 3 (.tmp 21), none⟩])
 (.block 0 (.seq (.ops [⟨some 24, .binOp .eql 3 (.tmp 22) (.const (.int .i64 1)) 3, none⟩,
 ⟨some 23, .assign (.tmp 24), none⟩])
 (.cond (.tmp 23)
 (.seq (.ops [⟨some 26, .move (.tmp 0), none⟩,
 ⟨some 27, .fieldAddr 48 (.tmp 5) 2, none⟩,
 ⟨some 28, .load 3 (.tmp 27), none⟩,
 ⟨some 29, .call ⟨.value (.func 19), #[.tmp 26, .const (.int .i64 1), .tmp 28], #[25, 3, 3]⟩, none⟩,
 ⟨some 25, .move (.tmp 29), none⟩,
 ⟨some 30, .extract (.tmp 25) 0, none⟩,
 ⟨some 31, .extract (.tmp 25) 1, none⟩,
 ⟨some 8, .assign (.tmp 30), none⟩,
 ⟨some 9, .assign (.tmp 31), none⟩])
 (.seq (.ops [⟨some 33, .move (.tmp 1), none⟩,
 ⟨some 34, .fieldAddr 48 (.tmp 5) 2, none⟩,
 ⟨some 35, .load 3 (.tmp 34), none⟩,
 ⟨some 36, .call ⟨.value (.func 19), #[.tmp 33, .const (.int .i64 1), .tmp 35], #[25, 3, 3]⟩, none⟩,
 ⟨some 32, .move (.tmp 36), none⟩,
 ⟨some 37, .extract (.tmp 32) 0, none⟩,
 ⟨some 38, .extract (.tmp 32) 1, none⟩,
 ⟨some 10, .assign (.tmp 37), none⟩,
 ⟨some 11, .assign (.tmp 38), none⟩])
 (.ops [⟨some 39, .move (.tmp 8), none⟩,
 ⟨some 40, .move (.tmp 10), none⟩,
 ⟨some 41, .binOp .eql 3 (.tmp 39) (.tmp 40) 3, none⟩,
 ⟨some 42, .move (.tmp 41), none⟩,
 ⟨some 43, .move (.tmp 9), some (42, true)⟩,
 ⟨some 44, .call ⟨.value (.func 15), #[.tmp 43], #[37]⟩, some (42, true)⟩,
 ⟨some 45, .move (.tmp 11), some (42, true)⟩,
 ⟨some 46, .call ⟨.value (.func 15), #[.tmp 45], #[37]⟩, some (42, true)⟩,
 ⟨some 47, .binOp .eql 3 (.tmp 44) (.tmp 46) 3, some (42, true)⟩,
 ⟨some 48, .pick (.tmp 42) (.tmp 47) (.const (.bool false)), none⟩,
 ⟨some 7, .assign (.tmp 48), none⟩])))
 (.seq (.ops [⟨some 50, .binOp .eql 3 (.tmp 22) (.const (.int .i64 2)) 3, none⟩,
 ⟨some 49, .assign (.tmp 50), none⟩])
 (.cond (.tmp 49)
 (.draw [⟨some 51, .move (.tmp 0), none⟩,
 ⟨some 52, .fieldAddr 48 (.tmp 5) 2, none⟩,
 ⟨some 53, .load 3 (.tmp 52), none⟩,
 ⟨some 54, .fieldAddr 48 (.tmp 5) 3, none⟩,
 ⟨some 55, .load 3 (.tmp 54), none⟩,
 ⟨some 56, .call ⟨.value (.func 20), #[.tmp 51, .const (.int .i64 1), .tmp 53, .tmp 55], #[25, 3, 3, 3]⟩, none⟩,
 ⟨some 57, .call ⟨.value (.func 15), #[.tmp 56], #[37]⟩, none⟩,
 ⟨some 58, .move (.tmp 1), none⟩,
 ⟨some 59, .fieldAddr 48 (.tmp 5) 2, none⟩,
 ⟨some 60, .load 3 (.tmp 59), none⟩,
 ⟨some 61, .fieldAddr 48 (.tmp 5) 3, none⟩,
 ⟨some 62, .load 3 (.tmp 61), none⟩,
 ⟨some 63, .call ⟨.value (.func 20), #[.tmp 58, .const (.int .i64 1), .tmp 60, .tmp 62], #[25, 3, 3, 3]⟩, none⟩,
 ⟨some 64, .call ⟨.value (.func 15), #[.tmp 63], #[37]⟩, none⟩,
 ⟨some 65, .binOp .eql 3 (.tmp 57) (.tmp 64) 3, none⟩,
 ⟨some 7, .assign (.tmp 65), none⟩] [(5, 7), (6, 7), (5, 8), (6, 8), (5, 9), (6, 9), (5, 10), (6, 10), (5, 11), (6, 11)])
 (.seq (.ops [⟨some 67, .binOp .eql 3 (.tmp 22) (.const (.int .i64 3)) 3, none⟩,
 ⟨some 66, .assign (.tmp 67), none⟩])
 (.cond (.tmp 66)
 (.draw [⟨some 68, .move (.tmp 0), none⟩,
 ⟨some 69, .fieldAddr 48 (.tmp 5) 2, none⟩,
 ⟨some 70, .load 3 (.tmp 69), none⟩,
 ⟨some 71, .fieldAddr 48 (.tmp 5) 4, none⟩,
 ⟨some 72, .load 45 (.tmp 71), none⟩,
 ⟨some 73, .call ⟨.value (.func 26), #[.tmp 68, .const (.int .i64 1), .tmp 70, .tmp 72], #[25, 3, 3, 45]⟩, none⟩,
 ⟨some 74, .call ⟨.value (.func 15), #[.tmp 73], #[37]⟩, none⟩,
 ⟨some 75, .move (.tmp 1), none⟩,
 ⟨some 76, .fieldAddr 48 (.tmp 5) 2, none⟩,
 ⟨some 77, .load 3 (.tmp 76), none⟩,
 ⟨some 78, .fieldAddr 48 (.tmp 5) 4, none⟩,
 ⟨some 79, .load 45 (.tmp 78), none⟩,
 ⟨some 80, .call ⟨.value (.func 26), #[.tmp 75, .const (.int .i64 1), .tmp 77, .tmp 79], #[25, 3, 3, 45]⟩, none⟩,
 ⟨some 81, .call ⟨.value (.func 15), #[.tmp 80], #[37]⟩, none⟩,
 ⟨some 82, .binOp .eql 3 (.tmp 74) (.tmp 81) 3, none⟩,
 ⟨some 7, .assign (.tmp 82), none⟩] [(5, 7), (6, 7), (5, 8), (6, 8), (5, 9), (6, 9), (5, 10), (6, 10), (5, 11), (6, 11)])
 (.seq (.ops [⟨some 84, .binOp .eql 3 (.tmp 22) (.const (.int .i64 4)) 3, none⟩,
 ⟨some 83, .assign (.tmp 84), none⟩])
 (.cond (.tmp 83)
 (.ops [⟨some 85, .move (.tmp 0), none⟩,
 ⟨some 86, .call ⟨.value (.func 28), #[.tmp 85, .const (.int .i64 1)], #[25, 3]⟩, none⟩,
 ⟨some 87, .call ⟨.value (.func 15), #[.tmp 86], #[37]⟩, none⟩,
 ⟨some 88, .move (.tmp 1), none⟩,
 ⟨some 89, .call ⟨.value (.func 28), #[.tmp 88, .const (.int .i64 1)], #[25, 3]⟩, none⟩,
 ⟨some 90, .call ⟨.value (.func 15), #[.tmp 89], #[37]⟩, none⟩,
 ⟨some 91, .binOp .eql 3 (.tmp 87) (.tmp 90) 3, none⟩,
 ⟨some 7, .assign (.tmp 91), none⟩])
 .skip))))))))))
 (.seq (.seq (.ops [⟨some 12, .assign (.const (.int .i64 0)), none⟩])
 (.block 1 (.loop ir17_l0)))
 (.seq (.ops [⟨some 156, .move (.tmp 7), none⟩,
 ⟨some 157, .move (.tmp 156), none⟩,
 ⟨some 158, .move (.tmp 0), some (157, true)⟩,
 ⟨some 159, .call ⟨.value (.func 24), #[.tmp 158, .const (.int .i64 1)], #[25, 3]⟩, some (157, true)⟩,
 ⟨some 160, .move (.tmp 1), some (157, true)⟩,
 ⟨some 161, .call ⟨.value (.func 24), #[.tmp 160, .const (.int .i64 1)], #[25, 3]⟩, some (157, true)⟩,
 ⟨some 162, .binOp .eql 3 (.tmp 159) (.tmp 161) 3, some (157, true)⟩,
 ⟨some 163, .pick (.tmp 157) (.tmp 162) (.const (.bool false)), none⟩,
 ⟨some 6, .assign (.tmp 163), none⟩])
 .ret)))))
theorem ir17_eq : (Try.f17.body.map low, Try.f17.ntmps, Try.f17.results.toList) = (some ir17, 164, [.tmp 6]) := by kernel_rfl
def ir19_l0 : LC := (.seq (.seq (.ops [⟨some 45, .move (.tmp 11), none⟩,
 ⟨some 46, .move (.tmp 10), none⟩,
 ⟨some 47, .move (.tmp 2), none⟩,
 ⟨some 48, .binOp .add 3 (.tmp 46) (.tmp 47) 3, none⟩,
 ⟨some 49, .binOp .lss 3 (.tmp 45) (.tmp 48) 3, none⟩])
 (.cond (.tmp 49)
 .skip
 (.exit 3)))
 (.seq (.block 4 (.seq (.ops [⟨some 52, .move (.tmp 8), none⟩,
 ⟨some 53, .move (.tmp 11), none⟩,
 ⟨some 54, .call ⟨.value (.func 45), #[.tmp 52, .tmp 53], #[76, 3]⟩, none⟩])
 (.cond (.tmp 54)
 (.exit 2)
 .skip)))
 (.ops [⟨some 50, .move (.tmp 11), none⟩,
 ⟨some 51, .binOp .add 3 (.tmp 50) (.const (.int .i64 1)) 3, none⟩,
 ⟨some 11, .assign (.tmp 51), none⟩])))
def ir19_l1 : LC := (.seq (.seq (.ops [⟨some 56, .move (.tmp 12), none⟩,
 ⟨some 57, .move (.tmp 10), none⟩,
 ⟨some 58, .move (.tmp 2), none⟩,
 ⟨some 59, .binOp .add 3 (.tmp 57) (.tmp 58) 3, none⟩,
 ⟨some 60, .binOp .lss 3 (.tmp 56) (.tmp 59) 3, none⟩])
 (.cond (.tmp 60)
 .skip
 (.exit 5)))
 (.seq (.block 6 (.ops [⟨some 63, .move (.tmp 8), none⟩,
 ⟨some 64, .move (.tmp 12), none⟩,
 ⟨some 65, .call ⟨.value (.func 46), #[.tmp 63, .tmp 64, .const (.bool true)], #[76, 3, 4]⟩, none⟩]))
 (.ops [⟨some 61, .move (.tmp 12), none⟩,
 ⟨some 62, .binOp .add 3 (.tmp 61) (.const (.int .i64 1)) 3, none⟩,
 ⟨some 12, .assign (.tmp 62), none⟩])))
def ir19_l2 : LC := (.seq (.seq (.ops [⟨some 26, .move (.tmp 10), none⟩,
 ⟨some 27, .move (.tmp 8), none⟩,
 ⟨some 28, .nilCheck (.tmp 27), none⟩,
 ⟨some 29, .fieldAddr 57 (.tmp 28) 1, none⟩,
 ⟨some 30, .load 3 (.tmp 29), none⟩,
 ⟨some 31, .binOp .lss 3 (.tmp 26) (.tmp 30) 3, none⟩,
 ⟨some 32, .move (.tmp 31), none⟩,
 ⟨some 33, .move (.tmp 2), some (32, true)⟩,
 ⟨some 34, .move (.tmp 8), some (32, true)⟩,
 ⟨some 35, .nilCheck (.tmp 34), some (32, true)⟩,
 ⟨some 36, .fieldAddr 57 (.tmp 35) 1, some (32, true)⟩,
 ⟨some 37, .load 3 (.tmp 36), some (32, true)⟩,
 ⟨some 38, .move (.tmp 10), some (32, true)⟩,
 ⟨some 39, .binOp .sub 3 (.tmp 37) (.tmp 38) 3, some (32, true)⟩,
 ⟨some 40, .binOp .leq 3 (.tmp 33) (.tmp 39) 3, some (32, true)⟩,
 ⟨some 41, .pick (.tmp 32) (.tmp 40) (.const (.bool false)), none⟩])
 (.cond (.tmp 41)
 .skip
 (.exit 1)))
 (.seq (.block 2 (.seq (.seq (.ops [⟨some 44, .move (.tmp 10), none⟩,
 ⟨some 11, .assign (.tmp 44), none⟩])
 (.block 3 (.loop ir19_l0)))
 (.seq (.seq (.ops [⟨some 55, .move (.tmp 10), none⟩,
 ⟨some 12, .assign (.tmp 55), none⟩])
 (.block 5 (.loop ir19_l1)))
 (.seq (.ops [⟨some 66, .move (.tmp 10), none⟩,
 ⟨some 6, .assign (.tmp 66), none⟩,
 ⟨some 7, .assign (.const (.int .i64 0)), none⟩])
 .ret))))
 (.ops [⟨some 42, .move (.tmp 10), none⟩,
 ⟨some 43, .binOp .add 3 (.tmp 42) (.const (.int .i64 1)) 3, none⟩,
 ⟨some 10, .assign (.tmp 43), none⟩])))
def ir19 : LC := (.seq (.ops [⟨some 6, .assign (.const (.int .i64 0)), none⟩,
 ⟨some 7, .assign (.const (.int .i64 0)), none⟩])
 (.seq (.ops [⟨some 14, .move (.tmp 0), none⟩,
 ⟨some 15, .move (.tmp 1), none⟩,
 ⟨some 16, .call ⟨.value (.func 32), #[.tmp 14, .tmp 15], #[25, 3]⟩, none⟩,
 ⟨some 13, .move (.tmp 16), none⟩,
 ⟨some 17, .extract (.tmp 13) 0, none⟩,
 ⟨some 18, .extract (.tmp 13) 1, none⟩,
 ⟨some 8, .assign (.tmp 17), none⟩,
 ⟨some 9, .assign (.tmp 18), none⟩])
 (.seq (.block 0 (.seq (.ops [⟨some 20, .move (.tmp 9), none⟩,
 ⟨some 21, .binOp .neq 37 (.tmp 20) (.const (.int .i64 0)) 37, none⟩,
 ⟨some 19, .assign (.tmp 21), none⟩])
 (.cond (.tmp 19)
 (.seq (.ops [⟨some 22, .move (.tmp 9), none⟩,
 ⟨some 6, .assign (.const (.int .i64 0)), none⟩,
 ⟨some 7, .assign (.tmp 22), none⟩])
 .ret)
 (.seq (.ops [⟨some 24, .move (.tmp 2), none⟩,
 ⟨some 25, .binOp .lss 3 (.tmp 24) (.const (.int .i64 1)) 3, none⟩,
 ⟨some 23, .assign (.tmp 25), none⟩])
 (.cond (.tmp 23)
 (.seq (.ops [⟨some 6, .assign (.const (.int .i64 0)), none⟩,
 ⟨some 7, .assign (.const (.int .i64 2)), none⟩])
 .ret)
 .skip)))))
 (.seq .skip
 (.seq (.seq (.ops [⟨some 10, .assign (.const (.int .i64 0)), none⟩])
 (.block 1 (.loop ir19_l2)))
 (.seq (.ops [⟨some 6, .assign (.const (.int .i64 0)), none⟩,
 ⟨some 7, .assign (.const (.int .i64 5)), none⟩])
 .ret))))))
theorem ir19_eq : (Try.f19.body.map low, Try.f19.ntmps, Try.f19.results.toList) = (some ir19, 67, [.tmp 6, .tmp 7]) := by kernel_rfl
def ir20_l0 : LC := (.seq (.seq (.ops [⟨some 48, .move (.tmp 11), none⟩,
 ⟨some 49, .move (.tmp 2), none⟩,
 ⟨some 50, .move (.tmp 3), none⟩,
 ⟨some 51, .binOp .add 3 (.tmp 49) (.tmp 50) 3, none⟩,
 ⟨some 52, .binOp .lss 3 (.tmp 48) (.tmp 51) 3, none⟩])
 (.cond (.tmp 52)
 .skip
 (.exit 1)))
 (.seq (.block 2 (.seq (.ops [⟨some 55, .move (.tmp 9), none⟩,
 ⟨some 56, .move (.tmp 11), none⟩,
 ⟨some 57, .call ⟨.value (.func 45), #[.tmp 55, .tmp 56], #[76, 3]⟩, none⟩,
 ⟨some 58, .unOp .not 4 (.tmp 57), none⟩])
 (.cond (.tmp 58)
 (.seq (.ops [⟨some 8, .assign (.const (.int .i64 6)), none⟩])
 .ret)
 .skip)))
 (.ops [⟨some 53, .move (.tmp 11), none⟩,
 ⟨some 54, .binOp .add 3 (.tmp 53) (.const (.int .i64 1)) 3, none⟩,
 ⟨some 11, .assign (.tmp 54), none⟩])))
def ir20_l1 : LC := (.seq (.seq (.ops [⟨some 60, .move (.tmp 12), none⟩,
 ⟨some 61, .move (.tmp 2), none⟩,
 ⟨some 62, .move (.tmp 3), none⟩,
 ⟨some 63, .binOp .add 3 (.tmp 61) (.tmp 62) 3, none⟩,
 ⟨some 64, .binOp .lss 3 (.tmp 60) (.tmp 63) 3, none⟩])
 (.cond (.tmp 64)
 .skip
 (.exit 3)))
 (.seq (.block 4 (.ops [⟨some 67, .move (.tmp 9), none⟩,
 ⟨some 68, .move (.tmp 12), none⟩,
 ⟨some 69, .call ⟨.value (.func 46), #[.tmp 67, .tmp 68, .const (.bool false)], #[76, 3, 4]⟩, none⟩]))
 (.ops [⟨some 65, .move (.tmp 12), none⟩,
 ⟨some 66, .binOp .add 3 (.tmp 65) (.const (.int .i64 1)) 3, none⟩,
 ⟨some 12, .assign (.tmp 66), none⟩])))
def ir20 : LC := (.seq (.ops [⟨some 8, .assign (.const (.int .i64 0)), none⟩])
 (.seq (.ops [⟨some 14, .move (.tmp 0), none⟩,
 ⟨some 15, .move (.tmp 1), none⟩,
 ⟨some 16, .call ⟨.value (.func 32), #[.tmp 14, .tmp 15], #[25, 3]⟩, none⟩,
 ⟨some 13, .move (.tmp 16), none⟩,
 ⟨some 17, .extract (.tmp 13) 0, none⟩,
 ⟨some 18, .extract (.tmp 13) 1, none⟩,
 ⟨some 9, .assign (.tmp 17), none⟩,
 ⟨some 10, .assign (.tmp 18), none⟩])
 (.seq (.block 0 (.seq (.ops [⟨some 20, .move (.tmp 10), none⟩,
 ⟨some 21, .binOp .neq 37 (.tmp 20) (.const (.int .i64 0)) 37, none⟩,
 ⟨some 19, .assign (.tmp 21), none⟩])
 (.cond (.tmp 19)
 (.seq (.ops [⟨some 22, .move (.tmp 10), none⟩,
 ⟨some 8, .assign (.tmp 22), none⟩])
 .ret)
 (.seq (.ops [⟨some 24, .move (.tmp 3), none⟩,
 ⟨some 25, .binOp .lss 3 (.tmp 24) (.const (.int .i64 1)) 3, none⟩,
 ⟨some 26, .move (.tmp 25), none⟩,
 ⟨some 27, .move (.tmp 2), some (26, false)⟩,
 ⟨some 28, .binOp .lss 3 (.tmp 27) (.const (.int .i64 0)) 3, some (26, false)⟩,
 ⟨some 29, .pick (.tmp 26) (.const (.bool true)) (.tmp 28), none⟩,
 ⟨some 23, .assign (.tmp 29), none⟩])
 (.cond (.tmp 23)
 (.seq (.ops [⟨some 8, .assign (.const (.int .i64 2)), none⟩])
 .ret)
 (.seq (.ops [⟨some 31, .move (.tmp 2), none⟩,
 ⟨some 32, .move (.tmp 9), none⟩,
 ⟨some 33, .nilCheck (.tmp 32), none⟩,
 ⟨some 34, .fieldAddr 57 (.tmp 33) 1, none⟩,
 ⟨some 35, .load 3 (.tmp 34), none⟩,
 ⟨some 36, .binOp .gtr 3 (.tmp 31) (.tmp 35) 3, none⟩,
 ⟨some 37, .move (.tmp 36), none⟩,
 ⟨some 38, .move (.tmp 3), some (37, false)⟩,
 ⟨some 39, .move (.tmp 9), some (37, false)⟩,
 ⟨some 40, .nilCheck (.tmp 39), some (37, false)⟩,
 ⟨some 41, .fieldAddr 57 (.tmp 40) 1, some (37, false)⟩,
 ⟨some 42, .load 3 (.tmp 41), some (37, false)⟩,
 ⟨some 43, .move (.tmp 2), some (37, false)⟩,
 ⟨some 44, .binOp .sub 3 (.tmp 42) (.tmp 43) 3, some (37, false)⟩,
 ⟨some 45, .binOp .gtr 3 (.tmp 38) (.tmp 44) 3, some (37, false)⟩,
 ⟨some 46, .pick (.tmp 37) (.const (.bool true)) (.tmp 45), none⟩,
 ⟨some 30, .assign (.tmp 46), none⟩])
 (.cond (.tmp 30)
 (.seq (.ops [⟨some 8, .assign (.const (.int .i64 6)), none⟩])
 .ret)
 .skip)))))))
 (.seq (.seq (.ops [⟨some 47, .move (.tmp 2), none⟩,
 ⟨some 11, .assign (.tmp 47), none⟩])
 (.block 1 (.loop ir20_l0)))
 (.seq (.seq (.ops [⟨some 59, .move (.tmp 2), none⟩,
 ⟨some 12, .assign (.tmp 59), none⟩])
 (.block 3 (.loop ir20_l1)))
 (.seq (.ops [⟨some 8, .assign (.const (.int .i64 0)), none⟩])
 .ret))))))
theorem ir20_eq : (Try.f20.body.map low, Try.f20.ntmps, Try.f20.results.toList) = (some ir20, 70, [.tmp 8]) := by kernel_rfl
noncomputable def rc24 (i : Nat) : Code × Code := (((Try.f24.body.map rangesOf).getD [])[i]?).getD (.skip, .skip)
noncomputable def ir24_a0 : LC := (.ops [⟨some 6, .alloc 118, none⟩,
 ⟨none, .store 118 (.tmp 6) (.tmp 10), none⟩])
noncomputable def ir24_b0 : LC := (.block 1 (.ops [⟨some 11, .load 3 (.tmp 5), none⟩,
 ⟨some 12, .fieldAddr 118 (.tmp 6) 1, none⟩,
 ⟨some 13, .load 3 (.tmp 12), none⟩,
 ⟨some 14, .binOp .add 3 (.tmp 11) (.tmp 13) 3, none⟩,
 ⟨none, .store 3 (.tmp 5) (.tmp 14), none⟩]))
theorem ir24_a0_eq : low (rc24 0).1 = ir24_a0 := by kernel_rfl
theorem ir24_b0_eq : low (rc24 0).2 = ir24_b0 := by kernel_rfl
noncomputable def ir24 : LC := (.seq (.ops [⟨some 4, .assign (.const (.int .i64 0)), none⟩])
 (.seq (.ops [⟨some 5, .alloc 3, none⟩,
 ⟨none, .store 3 (.tmp 5) (.const (.int .i64 0)), none⟩])
 (.seq (.seq (.ops [⟨some 7, .move (.tmp 0), none⟩,
 ⟨some 8, .move (.tmp 1), none⟩,
 ⟨some 9, .call ⟨.value (.func 48), #[.tmp 7, .tmp 8], #[25, 3]⟩, none⟩])
 (.block 0 (.range (.tmp 9) #[10] (rc24 0).1 (rc24 0).2)))
 (.seq (.ops [⟨some 15, .load 3 (.tmp 5), none⟩,
 ⟨some 4, .assign (.tmp 15), none⟩])
 .ret))))
theorem ir24_eq : (Try.f24.body.map low, Try.f24.ntmps, Try.f24.results.toList) = (some ir24, 16, [.tmp 4]) := by kernel_rfl
def ir26 : LC := (.seq (.ops [⟨some 8, .assign (.const (.int .i64 0)), none⟩])
 (.seq (.ops [⟨some 12, .move (.tmp 0), none⟩,
 ⟨some 13, .move (.tmp 1), none⟩,
 ⟨some 14, .move (.tmp 2), none⟩,
 ⟨some 15, .call ⟨.value (.func 61), #[.tmp 12, .tmp 13, .tmp 14], #[25, 3, 3]⟩, none⟩,
 ⟨some 11, .move (.tmp 15), none⟩,
 ⟨some 16, .extract (.tmp 11) 0, none⟩,
 ⟨some 17, .extract (.tmp 11) 1, none⟩,
 ⟨some 9, .assign (.tmp 16), none⟩,
 ⟨some 10, .assign (.tmp 17), none⟩])
 (.seq (.seq (.ops [⟨some 18, .move (.tmp 10), none⟩,
 ⟨some 19, .binOp .neq 37 (.tmp 18) (.const (.int .i64 0)) 37, none⟩])
 (.cond (.tmp 19)
 (.seq (.ops [⟨some 20, .move (.tmp 10), none⟩,
 ⟨some 8, .assign (.tmp 20), none⟩])
 .ret)
 .skip))
 (.seq (.ops [⟨some 21, .move (.tmp 0), none⟩,
 ⟨some 22, .nilCheck (.tmp 21), none⟩,
 ⟨some 23, .fieldAddr 60 (.tmp 22) 0, none⟩,
 ⟨some 24, .load 26 (.tmp 23), none⟩,
 ⟨some 25, .move (.tmp 9), none⟩,
 ⟨some 26, .move (.tmp 3), none⟩,
 ⟨some 27, .call ⟨.value (.func 62), #[.tmp 24, .tmp 25, .tmp 26], #[26, 3, 45]⟩, none⟩,
 ⟨some 8, .assign (.tmp 27), none⟩])
 .ret))))
theorem ir26_eq : (Try.f26.body.map low, Try.f26.ntmps, Try.f26.results.toList) = (some ir26, 28, [.tmp 8]) := by kernel_rfl
def ir28 : LC := (.seq (.ops [⟨some 4, .assign (.const (.int .i64 0)), none⟩])
 (.seq (.ops [⟨some 8, .move (.tmp 0), none⟩,
 ⟨some 9, .move (.tmp 1), none⟩,
 ⟨some 10, .call ⟨.value (.func 32), #[.tmp 8, .tmp 9], #[25, 3]⟩, none⟩,
 ⟨some 7, .move (.tmp 10), none⟩,
 ⟨some 11, .extract (.tmp 7) 0, none⟩,
 ⟨some 12, .extract (.tmp 7) 1, none⟩,
 ⟨some 5, .assign (.tmp 11), none⟩,
 ⟨some 6, .assign (.tmp 12), none⟩])
 (.seq (.seq (.ops [⟨some 13, .move (.tmp 6), none⟩,
 ⟨some 14, .binOp .neq 37 (.tmp 13) (.const (.int .i64 0)) 37, none⟩])
 (.cond (.tmp 14)
 (.seq (.ops [⟨some 15, .move (.tmp 6), none⟩,
 ⟨some 4, .assign (.tmp 15), none⟩])
 .ret)
 .skip))
 (.seq (.draw [⟨some 16, .move (.tmp 0), none⟩,
 ⟨some 17, .nilCheck (.tmp 16), none⟩,
 ⟨some 18, .fieldAddr 60 (.tmp 17) 0, none⟩,
 ⟨some 19, .load 26 (.tmp 18), none⟩,
 ⟨some 20, .move (.tmp 5), none⟩,
 ⟨some 21, .nilCheck (.tmp 20), none⟩,
 ⟨some 22, .fieldAddr 57 (.tmp 21) 0, none⟩,
 ⟨some 23, .load 3 (.tmp 22), none⟩,
 ⟨some 24, .move (.tmp 5), none⟩,
 ⟨some 25, .nilCheck (.tmp 24), none⟩,
 ⟨some 26, .fieldAddr 57 (.tmp 25) 1, none⟩,
 ⟨some 27, .load 3 (.tmp 26), none⟩,
 ⟨some 28, .call ⟨.value (.func 63), #[.tmp 19, .tmp 23, .tmp 27], #[26, 3, 3]⟩, none⟩,
 ⟨some 4, .assign (.tmp 28), none⟩] [])
 .ret))))
theorem ir28_eq : (Try.f28.body.map low, Try.f28.ntmps, Try.f28.results.toList) = (some ir28, 29, [.tmp 4]) := by kernel_rfl
def ir29 : LC := (.seq (.ops [⟨some 4, .assign (.const (.int .i64 0)), none⟩])
 (.seq (.seq (.ops [⟨some 5, .move (.tmp 0), none⟩,
 ⟨some 6, .move (.tmp 1), none⟩,
 ⟨some 7, .call ⟨.value (.func 64), #[.tmp 5, .tmp 6], #[26, 3]⟩, none⟩,
 ⟨some 8, .binOp .neq 37 (.tmp 7) (.const (.int .i64 0)) 37, none⟩])
 (.cond (.tmp 8)
 (.seq (.ops [⟨some 4, .assign (.const (.int .i64 0)), none⟩])
 .ret)
 .skip))
 (.seq (.ops [⟨some 9, .move (.tmp 0), none⟩,
 ⟨some 10, .nilCheck (.tmp 9), none⟩,
 ⟨some 11, .fieldAddr 88 (.tmp 10) 1, none⟩,
 ⟨some 12, .load 86 (.tmp 11), none⟩,
 ⟨some 13, .move (.tmp 1), none⟩,
 ⟨some 14, .lookup 86 (.tmp 12) (.tmp 13) false, none⟩,
 ⟨some 15, .call ⟨.builtin .len, #[.tmp 14], #[85]⟩, none⟩,
 ⟨some 4, .assign (.tmp 15), none⟩])
 .ret)))
theorem ir29_eq : (Try.f29.body.map low, Try.f29.ntmps, Try.f29.results.toList) = (some ir29, 16, [.tmp 4]) := by kernel_rfl
def ir32 : LC := (.seq (.ops [⟨some 4, .assign (.const (.pointer none)), none⟩,
 ⟨some 5, .assign (.const (.int .i64 0)), none⟩])
 (.seq (.block 0 (.seq (.ops [⟨some 7, .move (.tmp 0), none⟩,
 ⟨some 8, .call ⟨.value (.func 44), #[.tmp 7], #[25]⟩, none⟩,
 ⟨some 9, .unOp .not 4 (.tmp 8), none⟩,
 ⟨some 6, .assign (.tmp 9), none⟩])
 (.cond (.tmp 6)
 (.seq (.ops [⟨some 4, .assign (.const (.pointer none)), none⟩,
 ⟨some 5, .assign (.const (.int .i64 1)), none⟩])
 .ret)
 (.seq (.ops [⟨some 11, .move (.tmp 1), none⟩,
 ⟨some 12, .binOp .lss 3 (.tmp 11) (.const (.int .i64 0)) 3, none⟩,
 ⟨some 13, .move (.tmp 12), none⟩,
 ⟨some 14, .move (.tmp 1), some (13, false)⟩,
 ⟨some 15, .move (.tmp 0), some (13, false)⟩,
 ⟨some 16, .nilCheck (.tmp 15), some (13, false)⟩,
 ⟨some 17, .fieldAddr 60 (.tmp 16) 2, some (13, false)⟩,
 ⟨some 18, .load 3 (.tmp 17), some (13, false)⟩,
 ⟨some 19, .binOp .geq 3 (.tmp 14) (.tmp 18) 3, some (13, false)⟩,
 ⟨some 20, .pick (.tmp 13) (.const (.bool true)) (.tmp 19), none⟩,
 ⟨some 10, .assign (.tmp 20), none⟩])
 (.cond (.tmp 10)
 (.seq (.ops [⟨some 4, .assign (.const (.pointer none)), none⟩,
 ⟨some 5, .assign (.const (.int .i64 2)), none⟩])
 .ret)
 .skip)))))
 (.seq (.ops [⟨some 21, .move (.tmp 0), none⟩,
 ⟨some 22, .move (.tmp 1), none⟩,
 ⟨some 23, .nilCheck (.tmp 21), none⟩,
 ⟨some 24, .fieldAddr 60 (.tmp 23) 1, none⟩,
 ⟨some 25, .indexAddr 58 (.tmp 24) (.tmp 22), none⟩,
 ⟨some 4, .assign (.tmp 25), none⟩,
 ⟨some 5, .assign (.const (.int .i64 0)), none⟩])
 .ret)))
theorem ir32_eq : (Try.f32.body.map low, Try.f32.ntmps, Try.f32.results.toList) = (some ir32, 26, [.tmp 4, .tmp 5]) := by kernel_rfl
def ir38 : LC := (.seq (.ops [⟨some 2, .assign (.const (.pointer none)), none⟩])
 (.seq (.seq (.ops [⟨some 3, .move (.tmp 0), none⟩,
 ⟨some 4, .call ⟨.value (.func 44), #[.tmp 3], #[25]⟩, none⟩,
 ⟨some 5, .unOp .not 4 (.tmp 4), none⟩])
 (.cond (.tmp 5)
 (.seq (.ops [⟨some 2, .assign (.const (.pointer none)), none⟩])
 .ret)
 .skip))
 (.seq (.ops [⟨some 6, .move (.tmp 0), none⟩,
 ⟨some 7, .nilCheck (.tmp 6), none⟩,
 ⟨some 8, .fieldAddr 60 (.tmp 7) 0, none⟩,
 ⟨some 9, .load 26 (.tmp 8), none⟩,
 ⟨some 2, .assign (.tmp 9), none⟩])
 .ret)))
theorem ir38_eq : (Try.f38.body.map low, Try.f38.ntmps, Try.f38.results.toList) = (some ir38, 10, [.tmp 2]) := by kernel_rfl
def ir41 : LC := (.seq (.ops [⟨some 2, .assign (.const (.int .i64 0)), none⟩])
 (.seq (.seq (.ops [⟨some 3, .move (.tmp 0), none⟩,
 ⟨some 4, .call ⟨.value (.func 58), #[.tmp 3], #[26]⟩, none⟩,
 ⟨some 5, .unOp .not 4 (.tmp 4), none⟩])
 (.cond (.tmp 5)
 (.seq (.ops [⟨some 2, .assign (.const (.int .i64 0)), none⟩])
 .ret)
 .skip))
 (.seq (.ops [⟨some 6, .move (.tmp 0), none⟩,
 ⟨some 7, .nilCheck (.tmp 6), none⟩,
 ⟨some 8, .fieldAddr 88 (.tmp 7) 0, none⟩,
 ⟨some 9, .load 85 (.tmp 8), none⟩,
 ⟨some 10, .call ⟨.builtin .len, #[.tmp 9], #[85]⟩, none⟩,
 ⟨some 2, .assign (.tmp 10), none⟩])
 .ret)))
theorem ir41_eq : (Try.f41.body.map low, Try.f41.ntmps, Try.f41.results.toList) = (some ir41, 11, [.tmp 2]) := by kernel_rfl
def ir42 : LC := (.seq (.ops [⟨some 6, .assign (.const (.slice none 0 0)), none⟩,
 ⟨some 7, .assign (.const (.int .i64 0)), none⟩])
 (.seq (.ops [⟨some 11, .move (.tmp 0), none⟩,
 ⟨some 12, .move (.tmp 1), none⟩,
 ⟨some 13, .move (.tmp 2), none⟩,
 ⟨some 14, .call ⟨.value (.func 61), #[.tmp 11, .tmp 12, .tmp 13], #[25, 3, 3]⟩, none⟩,
 ⟨some 10, .move (.tmp 14), none⟩,
 ⟨some 15, .extract (.tmp 10) 0, none⟩,
 ⟨some 16, .extract (.tmp 10) 1, none⟩,
 ⟨some 8, .assign (.tmp 15), none⟩,
 ⟨some 9, .assign (.tmp 16), none⟩])
 (.seq (.seq (.ops [⟨some 17, .move (.tmp 9), none⟩,
 ⟨some 18, .binOp .neq 37 (.tmp 17) (.const (.int .i64 0)) 37, none⟩])
 (.cond (.tmp 18)
 (.seq (.ops [⟨some 19, .move (.tmp 9), none⟩,
 ⟨some 6, .assign (.const (.slice none 0 0)), none⟩,
 ⟨some 7, .assign (.tmp 19), none⟩])
 .ret)
 .skip))
 (.seq (.ops [⟨some 20, .move (.tmp 0), none⟩,
 ⟨some 21, .nilCheck (.tmp 20), none⟩,
 ⟨some 22, .fieldAddr 60 (.tmp 21) 0, none⟩,
 ⟨some 23, .load 26 (.tmp 22), none⟩,
 ⟨some 24, .move (.tmp 8), none⟩,
 ⟨some 25, .call ⟨.value (.func 67), #[.tmp 23, .tmp 24], #[26, 3]⟩, none⟩,
 ⟨some 26, .extract (.tmp 25) 0, none⟩,
 ⟨some 27, .extract (.tmp 25) 1, none⟩,
 ⟨some 6, .assign (.tmp 26), none⟩,
 ⟨some 7, .assign (.tmp 27), none⟩])
 .ret))))
theorem ir42_eq : (Try.f42.body.map low, Try.f42.ntmps, Try.f42.results.toList) = (some ir42, 28, [.tmp 6, .tmp 7]) := by kernel_rfl
def ir43 : LC := (.seq (.ops [⟨some 4, .assign (.const (.slice none 0 0)), none⟩,
 ⟨some 5, .assign (.const (.int .i64 0)), none⟩])
 (.seq (.seq (.ops [⟨some 8, .move (.tmp 0), none⟩,
 ⟨some 9, .move (.tmp 1), none⟩,
 ⟨some 10, .call ⟨.value (.func 64), #[.tmp 8, .tmp 9], #[26, 3]⟩, none⟩,
 ⟨some 6, .assign (.tmp 10), none⟩])
 (.seq (.ops [⟨some 11, .move (.tmp 6), none⟩,
 ⟨some 12, .binOp .neq 37 (.tmp 11) (.const (.int .i64 0)) 37, none⟩])
 (.cond (.tmp 12)
 (.seq (.ops [⟨some 13, .move (.tmp 6), none⟩,
 ⟨some 4, .assign (.const (.slice none 0 0)), none⟩,
 ⟨some 5, .assign (.tmp 13), none⟩])
 .ret)
 .skip)))
 (.seq (.ops [⟨some 14, .move (.tmp 0), none⟩,
 ⟨some 15, .nilCheck (.tmp 14), none⟩,
 ⟨some 16, .fieldAddr 88 (.tmp 15) 0, none⟩,
 ⟨some 17, .load 85 (.tmp 16), none⟩,
 ⟨some 18, .move (.tmp 1), none⟩,
 ⟨some 19, .indexAddr 85 (.tmp 17) (.tmp 18), none⟩,
 ⟨some 20, .load 113 (.tmp 19), none⟩,
 ⟨some 7, .alloc 113, none⟩,
 ⟨none, .store 113 (.tmp 7) (.tmp 20), none⟩])
 (.seq (.ops [⟨some 21, .slice 113 (.tmp 7) none none none, none⟩,
 ⟨some 4, .assign (.tmp 21), none⟩,
 ⟨some 5, .assign (.const (.int .i64 0)), none⟩])
 .ret))))
theorem ir43_eq : (Try.f43.body.map low, Try.f43.ntmps, Try.f43.results.toList) = (some ir43, 22, [.tmp 4, .tmp 5]) := by kernel_rfl
def ir44 : LC := (.seq (.ops [⟨some 2, .assign (.const (.bool false)), none⟩])
 (.seq (.ops [⟨some 3, .move (.tmp 0), none⟩,
 ⟨some 4, .binOp .neq 25 (.tmp 3) (.const (.pointer none)) 25, none⟩,
 ⟨some 5, .move (.tmp 4), none⟩,
 ⟨some 6, .move (.tmp 0), some (5, true)⟩,
 ⟨some 7, .nilCheck (.tmp 6), some (5, true)⟩,
 ⟨some 8, .fieldAddr 60 (.tmp 7) 2, some (5, true)⟩,
 ⟨some 9, .load 3 (.tmp 8), some (5, true)⟩,
 ⟨some 10, .binOp .gtr 3 (.tmp 9) (.const (.int .i64 0)) 3, some (5, true)⟩,
 ⟨some 11, .pick (.tmp 5) (.tmp 10) (.const (.bool false)), none⟩,
 ⟨some 2, .assign (.tmp 11), none⟩])
 .ret))
theorem ir44_eq : (Try.f44.body.map low, Try.f44.ntmps, Try.f44.results.toList) = (some ir44, 12, [.tmp 2]) := by kernel_rfl
def ir45 : LC := (.seq (.ops [⟨some 4, .assign (.const (.bool false)), none⟩])
 (.seq (.ops [⟨some 5, .move (.tmp 0), none⟩,
 ⟨some 6, .nilCheck (.tmp 5), none⟩,
 ⟨some 7, .fieldAddr 57 (.tmp 6) 2, none⟩,
 ⟨some 8, .load 55 (.tmp 7), none⟩,
 ⟨some 9, .move (.tmp 1), none⟩,
 ⟨some 10, .binOp .shr 3 (.tmp 9) (.const (.int .u64 6)) 90, none⟩,
 ⟨some 11, .indexAddr 55 (.tmp 8) (.tmp 10), none⟩,
 ⟨some 12, .load 123 (.tmp 11), none⟩,
 ⟨some 13, .move (.tmp 1), none⟩,
 ⟨some 14, .binOp .and 3 (.tmp 13) (.const (.int .i64 63)) 3, none⟩,
 ⟨some 15, .binOp .shr 123 (.tmp 12) (.tmp 14) 3, none⟩,
 ⟨some 16, .binOp .and 123 (.tmp 15) (.const (.int .u64 1)) 123, none⟩,
 ⟨some 17, .binOp .eql 123 (.tmp 16) (.const (.int .u64 1)) 123, none⟩,
 ⟨some 4, .assign (.tmp 17), none⟩])
 .ret))
theorem ir45_eq : (Try.f45.body.map low, Try.f45.ntmps, Try.f45.results.toList) = (some ir45, 18, [.tmp 4]) := by kernel_rfl
def ir46 : LC := (.seq (.draw [⟨some 6, .move (.tmp 0), none⟩,
 ⟨some 7, .nilCheck (.tmp 6), none⟩,
 ⟨some 8, .fieldAddr 57 (.tmp 7) 2, none⟩,
 ⟨some 9, .load 55 (.tmp 8), none⟩,
 ⟨some 10, .move (.tmp 1), none⟩,
 ⟨some 11, .binOp .shr 3 (.tmp 10) (.const (.int .u64 6)) 90, none⟩,
 ⟨some 12, .indexAddr 55 (.tmp 9) (.tmp 11), none⟩,
 ⟨some 13, .load 123 (.tmp 12), none⟩,
 ⟨some 14, .move (.tmp 1), none⟩,
 ⟨some 15, .binOp .and 3 (.tmp 14) (.const (.int .i64 63)) 3, none⟩,
 ⟨some 16, .binOp .shl 123 (.const (.int .u64 1)) (.tmp 15) 3, none⟩,
 ⟨some 17, .binOp .andNot 123 (.tmp 13) (.tmp 16) 123, none⟩,
 ⟨some 18, .indexAddr 55 (.tmp 9) (.tmp 11), none⟩,
 ⟨none, .store 123 (.tmp 18) (.tmp 17), none⟩] [])
 (.seq (.ops [⟨some 19, .move (.tmp 2), none⟩])
 (.cond (.tmp 19)
 (.draw [⟨some 20, .move (.tmp 0), none⟩,
 ⟨some 21, .nilCheck (.tmp 20), none⟩,
 ⟨some 22, .fieldAddr 57 (.tmp 21) 2, none⟩,
 ⟨some 23, .load 55 (.tmp 22), none⟩,
 ⟨some 24, .move (.tmp 1), none⟩,
 ⟨some 25, .binOp .shr 3 (.tmp 24) (.const (.int .u64 6)) 90, none⟩,
 ⟨some 26, .indexAddr 55 (.tmp 23) (.tmp 25), none⟩,
 ⟨some 27, .load 123 (.tmp 26), none⟩,
 ⟨some 28, .move (.tmp 1), none⟩,
 ⟨some 29, .binOp .and 3 (.tmp 28) (.const (.int .i64 63)) 3, none⟩,
 ⟨some 30, .binOp .shl 123 (.const (.int .u64 1)) (.tmp 29) 3, none⟩,
 ⟨some 31, .binOp .or 123 (.tmp 27) (.tmp 30) 123, none⟩,
 ⟨some 32, .indexAddr 55 (.tmp 23) (.tmp 25), none⟩,
 ⟨none, .store 123 (.tmp 32) (.tmp 31), none⟩] [])
 .skip)))
theorem ir46_eq : (Try.f46.body.map low, Try.f46.ntmps, Try.f46.results.toList) = (some ir46, 33, []) := by kernel_rfl
def ir48 : LC := (.seq (.ops [⟨some 2, .box 25 (.tmp 0), none⟩,
 ⟨some 3, .box 3 (.tmp 1), none⟩,
 ⟨some 4, .assign (.const .nilFunc), none⟩])
 (.seq (.ops [⟨some 5, .makeFunc (Fn.func 68) #[] #[.tmp 2, .tmp 3], none⟩,
 ⟨some 4, .assign (.tmp 5), none⟩])
 .ret))
theorem ir48_eq : (Try.f48.body.map low, Try.f48.ntmps, Try.f48.results.toList) = (some ir48, 6, [.tmp 4]) := by kernel_rfl
def ir58 : LC := (.seq (.ops [⟨some 2, .assign (.const (.bool false)), none⟩])
 (.seq (.ops [⟨some 3, .move (.tmp 0), none⟩,
 ⟨some 4, .binOp .neq 26 (.tmp 3) (.const (.pointer none)) 26, none⟩,
 ⟨some 5, .move (.tmp 4), none⟩,
 ⟨some 6, .move (.tmp 0), some (5, true)⟩,
 ⟨some 7, .nilCheck (.tmp 6), some (5, true)⟩,
 ⟨some 8, .fieldAddr 88 (.tmp 7) 0, some (5, true)⟩,
 ⟨some 9, .load 85 (.tmp 8), some (5, true)⟩,
 ⟨some 10, .call ⟨.builtin .len, #[.tmp 9], #[85]⟩, some (5, true)⟩,
 ⟨some 11, .binOp .gtr 3 (.tmp 10) (.const (.int .i64 0)) 3, some (5, true)⟩,
 ⟨some 12, .pick (.tmp 5) (.tmp 11) (.const (.bool false)), none⟩,
 ⟨some 2, .assign (.tmp 12), none⟩])
 .ret))
theorem ir58_eq : (Try.f58.body.map low, Try.f58.ntmps, Try.f58.results.toList) = (some ir58, 13, [.tmp 2]) := by kernel_rfl
def ir61 : LC := (.seq (.ops [⟨some 6, .assign (.const (.int .i64 0)), none⟩,
 ⟨some 7, .assign (.const (.int .i64 0)), none⟩])
 (.seq (.ops [⟨some 11, .move (.tmp 0), none⟩,
 ⟨some 12, .move (.tmp 1), none⟩,
 ⟨some 13, .call ⟨.value (.func 32), #[.tmp 11, .tmp 12], #[25, 3]⟩, none⟩,
 ⟨some 10, .move (.tmp 13), none⟩,
 ⟨some 14, .extract (.tmp 10) 0, none⟩,
 ⟨some 15, .extract (.tmp 10) 1, none⟩,
 ⟨some 8, .assign (.tmp 14), none⟩,
 ⟨some 9, .assign (.tmp 15), none⟩])
 (.seq (.block 0 (.seq (.ops [⟨some 17, .move (.tmp 9), none⟩,
 ⟨some 18, .binOp .neq 37 (.tmp 17) (.const (.int .i64 0)) 37, none⟩,
 ⟨some 16, .assign (.tmp 18), none⟩])
 (.cond (.tmp 16)
 (.seq (.ops [⟨some 19, .move (.tmp 9), none⟩,
 ⟨some 6, .assign (.const (.int .i64 0)), none⟩,
 ⟨some 7, .assign (.tmp 19), none⟩])
 .ret)
 (.seq (.ops [⟨some 21, .move (.tmp 2), none⟩,
 ⟨some 22, .binOp .lss 3 (.tmp 21) (.const (.int .i64 0)) 3, none⟩,
 ⟨some 23, .move (.tmp 22), none⟩,
 ⟨some 24, .move (.tmp 2), some (23, false)⟩,
 ⟨some 25, .move (.tmp 8), some (23, false)⟩,
 ⟨some 26, .nilCheck (.tmp 25), some (23, false)⟩,
 ⟨some 27, .fieldAddr 57 (.tmp 26) 1, some (23, false)⟩,
 ⟨some 28, .load 3 (.tmp 27), some (23, false)⟩,
 ⟨some 29, .binOp .geq 3 (.tmp 24) (.tmp 28) 3, some (23, false)⟩,
 ⟨some 30, .pick (.tmp 23) (.const (.bool true)) (.tmp 29), none⟩,
 ⟨some 31, .move (.tmp 30), none⟩,
 ⟨some 32, .move (.tmp 8), some (31, false)⟩,
 ⟨some 33, .move (.tmp 2), some (31, false)⟩,
 ⟨some 34, .call ⟨.value (.func 45), #[.tmp 32, .tmp 33], #[76, 3]⟩, some (31, false)⟩,
 ⟨some 35, .unOp .not 4 (.tmp 34), some (31, false)⟩,
 ⟨some 36, .pick (.tmp 31) (.const (.bool true)) (.tmp 35), none⟩,
 ⟨some 20, .assign (.tmp 36), none⟩])
 (.cond (.tmp 20)
 (.seq (.ops [⟨some 6, .assign (.const (.int .i64 0)), none⟩,
 ⟨some 7, .assign (.const (.int .i64 6)), none⟩])
 .ret)
 .skip)))))
 (.seq (.ops [⟨some 37, .move (.tmp 8), none⟩,
 ⟨some 38, .nilCheck (.tmp 37), none⟩,
 ⟨some 39, .fieldAddr 57 (.tmp 38) 0, none⟩,
 ⟨some 40, .load 3 (.tmp 39), none⟩,
 ⟨some 41, .move (.tmp 2), none⟩,
 ⟨some 42, .binOp .add 3 (.tmp 40) (.tmp 41) 3, none⟩,
 ⟨some 6, .assign (.tmp 42), none⟩,
 ⟨some 7, .assign (.const (.int .i64 0)), none⟩])
 .ret))))
theorem ir61_eq : (Try.f61.body.map low, Try.f61.ntmps, Try.f61.results.toList) = (some ir61, 43, [.tmp 6, .tmp 7]) := by kernel_rfl
def ir62 : LC := (.seq (.ops [⟨some 6, .assign (.const (.int .i64 0)), none⟩])
 (.seq (.seq (.ops [⟨some 8, .move (.tmp 0), none⟩,
 ⟨some 9, .move (.tmp 1), none⟩,
 ⟨some 10, .call ⟨.value (.func 64), #[.tmp 8, .tmp 9], #[26, 3]⟩, none⟩,
 ⟨some 7, .assign (.tmp 10), none⟩])
 (.seq (.ops [⟨some 11, .move (.tmp 7), none⟩,
 ⟨some 12, .binOp .neq 37 (.tmp 11) (.const (.int .i64 0)) 37, none⟩])
 (.cond (.tmp 12)
 (.seq (.ops [⟨some 13, .move (.tmp 7), none⟩,
 ⟨some 6, .assign (.tmp 13), none⟩])
 .ret)
 .skip)))
 (.seq (.seq (.ops [⟨some 14, .move (.tmp 2), none⟩,
 ⟨some 15, .call ⟨.builtin .len, #[.tmp 14], #[45]⟩, none⟩,
 ⟨some 16, .binOp .neq 3 (.tmp 15) (.const (.int .i64 128)) 3, none⟩])
 (.cond (.tmp 16)
 (.seq (.ops [⟨some 6, .assign (.const (.int .i64 2)), none⟩])
 .ret)
 .skip))
 (.seq (.draw [⟨some 17, .move (.tmp 0), none⟩,
 ⟨some 18, .nilCheck (.tmp 17), none⟩,
 ⟨some 19, .fieldAddr 88 (.tmp 18) 1, none⟩,
 ⟨some 20, .load 86 (.tmp 19), none⟩,
 ⟨some 21, .move (.tmp 1), none⟩,
 ⟨some 22, .move (.tmp 0), none⟩,
 ⟨some 23, .nilCheck (.tmp 22), none⟩,
 ⟨some 24, .fieldAddr 88 (.tmp 23) 1, none⟩,
 ⟨some 25, .load 86 (.tmp 24), none⟩,
 ⟨some 26, .move (.tmp 1), none⟩,
 ⟨some 27, .lookup 86 (.tmp 25) (.tmp 26) false, none⟩,
 ⟨some 28, .move (.tmp 2), none⟩,
 ⟨some 29, .sliceToArrayPointer 113 (.tmp 28), none⟩,
 ⟨some 30, .load 113 (.tmp 29), none⟩,
 ⟨some 31, .buildSlice 85 1 #[(0, .tmp 30)], none⟩,
 ⟨some 32, .call ⟨.builtin .append, #[.tmp 27, .tmp 31], #[85, 85]⟩, none⟩,
 ⟨none, .mapUpdate 86 (.tmp 20) (.tmp 21) (.tmp 32), none⟩] [(0, 14), (1, 14), (2, 14), (3, 14), (4, 14), (5, 14), (6, 14), (7, 14), (8, 14), (9, 14), (10, 14), (0, 15), (1, 15), (2, 15), (3, 15), (4, 15)])
 (.seq (.ops [⟨some 33, .move (.tmp 0), none⟩,
 ⟨some 34, .nilCheck (.tmp 33), none⟩,
 ⟨some 35, .fieldAddr 88 (.tmp 34) 2, none⟩,
 ⟨some 36, .load 2 (.tmp 35), none⟩,
 ⟨some 37, .binOp .add 2 (.tmp 36) (.const (.int .i64 1)) 2, none⟩,
 ⟨some 38, .nilCheck (.tmp 33), none⟩,
 ⟨some 39, .fieldAddr 88 (.tmp 38) 2, none⟩,
 ⟨none, .store 2 (.tmp 39) (.tmp 37), none⟩])
 (.seq (.ops [⟨some 6, .assign (.const (.int .i64 0)), none⟩])
 .ret))))))
theorem ir62_eq : (Try.f62.body.map low, Try.f62.ntmps, Try.f62.results.toList) = (some ir62, 40, [.tmp 6]) := by kernel_rfl
def ir63_l0 : LC := (.seq (.seq (.ops [⟨some 40, .move (.tmp 7), none⟩,
 ⟨some 41, .move (.tmp 1), none⟩,
 ⟨some 42, .move (.tmp 2), none⟩,
 ⟨some 43, .binOp .add 3 (.tmp 41) (.tmp 42) 3, none⟩,
 ⟨some 44, .binOp .lss 3 (.tmp 40) (.tmp 43) 3, none⟩])
 (.cond (.tmp 44)
 .skip
 (.exit 1)))
 (.seq (.block 2 (.seq (.draw [⟨some 47, .move (.tmp 0), none⟩,
 ⟨some 48, .nilCheck (.tmp 47), none⟩,
 ⟨some 49, .fieldAddr 88 (.tmp 48) 0, none⟩,
 ⟨some 50, .load 85 (.tmp 49), none⟩,
 ⟨some 51, .move (.tmp 7), none⟩,
 ⟨some 52, .move (.tmp 0), none⟩,
 ⟨some 53, .move (.tmp 7), none⟩,
 ⟨some 54, .call ⟨.value (.func 74), #[.tmp 52, .tmp 53], #[26, 3]⟩, none⟩,
 ⟨some 55, .indexAddr 85 (.tmp 50) (.tmp 51), none⟩,
 ⟨none, .store 113 (.tmp 55) (.tmp 54), none⟩] [(0, 7), (1, 7), (2, 7), (3, 7), (4, 7)])
 (.ops [⟨some 56, .move (.tmp 0), none⟩,
 ⟨some 57, .nilCheck (.tmp 56), none⟩,
 ⟨some 58, .fieldAddr 88 (.tmp 57) 1, none⟩,
 ⟨some 59, .load 86 (.tmp 58), none⟩,
 ⟨some 60, .move (.tmp 7), none⟩,
 ⟨none, .call ⟨.builtin .delete, #[.tmp 59, .tmp 60], #[86, 3]⟩, none⟩])))
 (.ops [⟨some 45, .move (.tmp 7), none⟩,
 ⟨some 46, .binOp .add 3 (.tmp 45) (.const (.int .i64 1)) 3, none⟩,
 ⟨some 7, .assign (.tmp 46), none⟩])))
def ir63 : LC := (.seq (.ops [⟨some 6, .assign (.const (.int .i64 0)), none⟩])
 (.seq (.block 0 (.seq (.ops [⟨some 9, .move (.tmp 0), none⟩,
 ⟨some 10, .call ⟨.value (.func 58), #[.tmp 9], #[26]⟩, none⟩,
 ⟨some 11, .unOp .not 4 (.tmp 10), none⟩,
 ⟨some 8, .assign (.tmp 11), none⟩])
 (.cond (.tmp 8)
 (.seq (.ops [⟨some 6, .assign (.const (.int .i64 1)), none⟩])
 .ret)
 (.seq (.ops [⟨some 13, .move (.tmp 2), none⟩,
 ⟨some 14, .binOp .lss 3 (.tmp 13) (.const (.int .i64 0)) 3, none⟩,
 ⟨some 15, .move (.tmp 14), none⟩,
 ⟨some 16, .move (.tmp 1), some (15, false)⟩,
 ⟨some 17, .binOp .lss 3 (.tmp 16) (.const (.int .i64 0)) 3, some (15, false)⟩,
 ⟨some 18, .pick (.tmp 15) (.const (.bool true)) (.tmp 17), none⟩,
 ⟨some 19, .move (.tmp 18), none⟩,
 ⟨some 20, .move (.tmp 1), some (19, false)⟩,
 ⟨some 21, .move (.tmp 0), some (19, false)⟩,
 ⟨some 22, .nilCheck (.tmp 21), some (19, false)⟩,
 ⟨some 23, .fieldAddr 88 (.tmp 22) 0, some (19, false)⟩,
 ⟨some 24, .load 85 (.tmp 23), some (19, false)⟩,
 ⟨some 25, .call ⟨.builtin .len, #[.tmp 24], #[85]⟩, some (19, false)⟩,
 ⟨some 26, .binOp .gtr 3 (.tmp 20) (.tmp 25) 3, some (19, false)⟩,
 ⟨some 27, .pick (.tmp 19) (.const (.bool true)) (.tmp 26), none⟩,
 ⟨some 28, .move (.tmp 27), none⟩,
 ⟨some 29, .move (.tmp 2), some (28, false)⟩,
 ⟨some 30, .move (.tmp 0), some (28, false)⟩,
 ⟨some 31, .nilCheck (.tmp 30), some (28, false)⟩,
 ⟨some 32, .fieldAddr 88 (.tmp 31) 0, some (28, false)⟩,
 ⟨some 33, .load 85 (.tmp 32), some (28, false)⟩,
 ⟨some 34, .call ⟨.builtin .len, #[.tmp 33], #[85]⟩, some (28, false)⟩,
 ⟨some 35, .move (.tmp 1), some (28, false)⟩,
 ⟨some 36, .binOp .sub 3 (.tmp 34) (.tmp 35) 3, some (28, false)⟩,
 ⟨some 37, .binOp .gtr 3 (.tmp 29) (.tmp 36) 3, some (28, false)⟩,
 ⟨some 38, .pick (.tmp 28) (.const (.bool true)) (.tmp 37), none⟩,
 ⟨some 12, .assign (.tmp 38), none⟩])
 (.cond (.tmp 12)
 (.seq (.ops [⟨some 6, .assign (.const (.int .i64 2)), none⟩])
 .ret)
 .skip)))))
 (.seq (.seq (.ops [⟨some 39, .move (.tmp 1), none⟩,
 ⟨some 7, .assign (.tmp 39), none⟩])
 (.block 1 (.loop ir63_l0)))
 (.seq (.ops [⟨some 6, .assign (.const (.int .i64 0)), none⟩])
 .ret))))
theorem ir63_eq : (Try.f63.body.map low, Try.f63.ntmps, Try.f63.results.toList) = (some ir63, 61, [.tmp 6]) := by kernel_rfl
def ir64 : LC := (.seq (.ops [⟨some 4, .assign (.const (.int .i64 0)), none⟩])
 (.seq (.block 0 (.seq (.ops [⟨some 6, .move (.tmp 0), none⟩,
 ⟨some 7, .call ⟨.value (.func 58), #[.tmp 6], #[26]⟩, none⟩,
 ⟨some 8, .unOp .not 4 (.tmp 7), none⟩,
 ⟨some 5, .assign (.tmp 8), none⟩])
 (.cond (.tmp 5)
 (.seq (.ops [⟨some 4, .assign (.const (.int .i64 1)), none⟩])
 .ret)
 (.seq (.ops [⟨some 10, .move (.tmp 1), none⟩,
 ⟨some 11, .binOp .lss 3 (.tmp 10) (.const (.int .i64 0)) 3, none⟩,
 ⟨some 12, .move (.tmp 11), none⟩,
 ⟨some 13, .move (.tmp 1), some (12, false)⟩,
 ⟨some 14, .move (.tmp 0), some (12, false)⟩,
 ⟨some 15, .nilCheck (.tmp 14), some (12, false)⟩,
 ⟨some 16, .fieldAddr 88 (.tmp 15) 0, some (12, false)⟩,
 ⟨some 17, .load 85 (.tmp 16), some (12, false)⟩,
 ⟨some 18, .call ⟨.builtin .len, #[.tmp 17], #[85]⟩, some (12, false)⟩,
 ⟨some 19, .binOp .geq 3 (.tmp 13) (.tmp 18) 3, some (12, false)⟩,
 ⟨some 20, .pick (.tmp 12) (.const (.bool true)) (.tmp 19), none⟩,
 ⟨some 9, .assign (.tmp 20), none⟩])
 (.cond (.tmp 9)
 (.seq (.ops [⟨some 4, .assign (.const (.int .i64 2)), none⟩])
 .ret)
 .skip)))))
 (.seq (.ops [⟨some 4, .assign (.const (.int .i64 0)), none⟩])
 .ret)))
theorem ir64_eq : (Try.f64.body.map low, Try.f64.ntmps, Try.f64.results.toList) = (some ir64, 21, [.tmp 4]) := by kernel_rfl
def ir67 : LC := (.seq (.ops [⟨some 4, .assign (.const (.slice none 0 0)), none⟩,
 ⟨some 5, .assign (.const (.int .i64 0)), none⟩])
 (.seq (.seq (.ops [⟨some 8, .move (.tmp 0), none⟩,
 ⟨some 9, .move (.tmp 1), none⟩,
 ⟨some 10, .call ⟨.value (.func 64), #[.tmp 8, .tmp 9], #[26, 3]⟩, none⟩,
 ⟨some 6, .assign (.tmp 10), none⟩])
 (.seq (.ops [⟨some 11, .move (.tmp 6), none⟩,
 ⟨some 12, .binOp .neq 37 (.tmp 11) (.const (.int .i64 0)) 37, none⟩])
 (.cond (.tmp 12)
 (.seq (.ops [⟨some 13, .move (.tmp 6), none⟩,
 ⟨some 4, .assign (.const (.slice none 0 0)), none⟩,
 ⟨some 5, .assign (.tmp 13), none⟩])
 .ret)
 .skip)))
 (.seq (.ops [⟨some 14, .move (.tmp 0), none⟩,
 ⟨some 15, .move (.tmp 1), none⟩,
 ⟨some 16, .call ⟨.value (.func 74), #[.tmp 14, .tmp 15], #[26, 3]⟩, none⟩,
 ⟨some 7, .alloc 113, none⟩,
 ⟨none, .store 113 (.tmp 7) (.tmp 16), none⟩])
 (.seq (.ops [⟨some 17, .slice 113 (.tmp 7) none none none, none⟩,
 ⟨some 4, .assign (.tmp 17), none⟩,
 ⟨some 5, .assign (.const (.int .i64 0)), none⟩])
 .ret))))
theorem ir67_eq : (Try.f67.body.map low, Try.f67.ntmps, Try.f67.results.toList) = (some ir67, 18, [.tmp 4, .tmp 5]) := by kernel_rfl
def ir68_l0 : LC := (.seq (.seq (.ops [⟨some 26, .move (.tmp 6), none⟩,
 ⟨some 27, .move (.tmp 4), none⟩,
 ⟨some 28, .nilCheck (.tmp 27), none⟩,
 ⟨some 29, .fieldAddr 57 (.tmp 28) 1, none⟩,
 ⟨some 30, .load 3 (.tmp 29), none⟩,
 ⟨some 31, .binOp .lss 3 (.tmp 26) (.tmp 30) 3, none⟩,
 ⟨some 32, .move (.tmp 31), none⟩,
 ⟨some 33, .move (.tmp 4), some (32, true)⟩,
 ⟨some 34, .move (.tmp 6), some (32, true)⟩,
 ⟨some 35, .call ⟨.value (.func 45), #[.tmp 33, .tmp 34], #[76, 3]⟩, some (32, true)⟩,
 ⟨some 36, .pick (.tmp 32) (.tmp 35) (.const (.bool false)), none⟩])
 (.cond (.tmp 36)
 .skip
 (.exit 2)))
 (.block 3 (.seq (.ops [⟨some 37, .fieldAddr 118 (.tmp 7) 1, none⟩,
 ⟨some 38, .load 3 (.tmp 37), none⟩,
 ⟨some 39, .binOp .add 3 (.tmp 38) (.const (.int .i64 1)) 3, none⟩,
 ⟨some 40, .fieldAddr 118 (.tmp 7) 1, none⟩,
 ⟨none, .store 3 (.tmp 40) (.tmp 39), none⟩])
 (.ops [⟨some 41, .move (.tmp 6), none⟩,
 ⟨some 42, .binOp .add 3 (.tmp 41) (.const (.int .i64 1)) 3, none⟩,
 ⟨some 6, .assign (.tmp 42), none⟩]))))
def ir68_l1 : LC := (.seq (.seq (.ops [⟨some 16, .move (.tmp 6), none⟩,
 ⟨some 17, .move (.tmp 4), none⟩,
 ⟨some 18, .nilCheck (.tmp 17), none⟩,
 ⟨some 19, .fieldAddr 57 (.tmp 18) 1, none⟩,
 ⟨some 20, .load 3 (.tmp 19), none⟩,
 ⟨some 21, .binOp .lss 3 (.tmp 16) (.tmp 20) 3, none⟩])
 (.cond (.tmp 21)
 .skip
 (.exit 0)))
 (.seq (.block 1 (.seq (.ops [⟨some 24, .move (.tmp 6), none⟩,
 ⟨some 25, .build 118 #[(0, .tmp 24)], none⟩,
 ⟨some 7, .alloc 118, none⟩,
 ⟨none, .store 118 (.tmp 7) (.tmp 25), none⟩])
 (.seq (.block 2 (.loop ir68_l0))
 (.seq (.ops [⟨some 43, .fieldAddr 118 (.tmp 7) 1, none⟩,
 ⟨some 44, .load 3 (.tmp 43), none⟩,
 ⟨some 45, .binOp .gtr 3 (.tmp 44) (.const (.int .i64 0)) 3, none⟩,
 ⟨some 46, .move (.tmp 45), none⟩,
 ⟨some 47, .move (.tmp 0), some (46, true)⟩,
 ⟨some 48, .load 118 (.tmp 7), some (46, true)⟩,
 ⟨some 49, .call ⟨.value (.tmp 47), #[.tmp 48], #[118]⟩, some (46, true)⟩,
 ⟨some 50, .unOp .not 4 (.tmp 49), some (46, true)⟩,
 ⟨some 51, .pick (.tmp 46) (.tmp 50) (.const (.bool false)), none⟩])
 (.cond (.tmp 51)
 .ret
 .skip)))))
 (.ops [⟨some 22, .move (.tmp 6), none⟩,
 ⟨some 23, .binOp .add 3 (.tmp 22) (.const (.int .i64 1)) 3, none⟩,
 ⟨some 6, .assign (.tmp 23), none⟩])))
def ir68 : LC := (.seq (.ops [⟨some 9, .load 25 (.tmp 1), none⟩,
 ⟨some 10, .load 3 (.tmp 2), none⟩,
 ⟨some 11, .call ⟨.value (.func 32), #[.tmp 9, .tmp 10], #[25, 3]⟩, none⟩,
 ⟨some 8, .move (.tmp 11), none⟩,
 ⟨some 12, .extract (.tmp 8) 0, none⟩,
 ⟨some 13, .extract (.tmp 8) 1, none⟩,
 ⟨some 4, .assign (.tmp 12), none⟩,
 ⟨some 5, .assign (.tmp 13), none⟩])
 (.seq (.seq (.ops [⟨some 14, .move (.tmp 5), none⟩,
 ⟨some 15, .binOp .neq 37 (.tmp 14) (.const (.int .i64 0)) 37, none⟩])
 (.cond (.tmp 15)
 .ret
 .skip))
 (.seq (.ops [⟨some 6, .assign (.const (.int .i64 0)), none⟩])
 (.block 0 (.loop ir68_l1)))))
theorem ir68_eq : (Try.f68.body.map low, Try.f68.ntmps, Try.f68.results.toList) = (some ir68, 52, []) := by kernel_rfl
def ir74 : LC := (.seq (.ops [⟨some 4, .alloc 113, none⟩])
 (.seq (.seq (.ops [⟨some 6, .move (.tmp 0), none⟩,
 ⟨some 7, .nilCheck (.tmp 6), none⟩,
 ⟨some 8, .fieldAddr 88 (.tmp 7) 1, none⟩,
 ⟨some 9, .load 86 (.tmp 8), none⟩,
 ⟨some 10, .move (.tmp 1), none⟩,
 ⟨some 11, .lookup 86 (.tmp 9) (.tmp 10) false, none⟩,
 ⟨some 5, .assign (.tmp 11), none⟩])
 (.seq (.ops [⟨some 12, .move (.tmp 5), none⟩,
 ⟨some 13, .call ⟨.builtin .len, #[.tmp 12], #[85]⟩, none⟩,
 ⟨some 14, .binOp .gtr 3 (.tmp 13) (.const (.int .i64 0)) 3, none⟩])
 (.cond (.tmp 14)
 (.seq (.ops [⟨some 15, .move (.tmp 5), none⟩,
 ⟨some 16, .move (.tmp 5), none⟩,
 ⟨some 17, .call ⟨.builtin .len, #[.tmp 16], #[85]⟩, none⟩,
 ⟨some 18, .binOp .sub 3 (.tmp 17) (.const (.int .i64 1)) 3, none⟩,
 ⟨some 19, .indexAddr 85 (.tmp 15) (.tmp 18), none⟩,
 ⟨some 20, .load 113 (.tmp 19), none⟩,
 ⟨none, .store 113 (.tmp 4) (.tmp 20), none⟩])
 .ret)
 .skip)))
 (.seq (.ops [⟨some 21, .move (.tmp 0), none⟩,
 ⟨some 22, .nilCheck (.tmp 21), none⟩,
 ⟨some 23, .fieldAddr 88 (.tmp 22) 0, none⟩,
 ⟨some 24, .load 85 (.tmp 23), none⟩,
 ⟨some 25, .move (.tmp 1), none⟩,
 ⟨some 26, .indexAddr 85 (.tmp 24) (.tmp 25), none⟩,
 ⟨some 27, .load 113 (.tmp 26), none⟩,
 ⟨none, .store 113 (.tmp 4) (.tmp 27), none⟩])
 .ret)))
theorem ir74_eq : (Try.f74.body.map low, Try.f74.ntmps, Try.f74.results.toList) = (some ir74, 28, [.cell 4 113]) := by kernel_rfl


end Go.Proofs.Ythdkhbhicimpdaa
