/- The code of this seat struck bare (printed by program). -/
import Derived.Test.YtakgjjbmniilhaaProg
import Derived.Test.YtakgjjbmniilhaaV4
import Derived.KernelRfl
set_option linter.unusedVariables false
set_option maxRecDepth 100000
namespace Go.Proofs.Ytakgjjbmniilhaa
open Go Go.Vm
noncomputable def ir8 : LC := pk (ir0 Try.f8 [] []) _
theorem ir8_eq : IrV Try.f8 = (some ir8, 15, [.tmp 2, .tmp 3]) := by kernel_rfl
noncomputable def ir9 : LC := pk (ir0 Try.f9 [] []) _
theorem ir9_eq : IrV Try.f9 = (some ir9, 13, [.tmp 2, .tmp 3]) := by kernel_rfl
noncomputable def ir10 : LC := pk (ir0 Try.f10 [] []) _
theorem ir10_eq : IrV Try.f10 = (some ir10, 13, [.tmp 2, .tmp 3]) := by kernel_rfl
noncomputable def ir11 : LC := pk (ir0 Try.f11 [] []) _
theorem ir11_eq : IrV Try.f11 = (some ir11, 51, [.tmp 6, .tmp 7]) := by kernel_rfl
noncomputable def ir13_l0 : LC := pk (irl Try.f13 [] [] 0) _
noncomputable def ir13 : LC := (pk (fun l0 => ir0 Try.f13 [l0] []) _) ir13_l0
theorem ir13_eq : IrV Try.f13 = (some ir13, 116, [.tmp 4, .tmp 5]) := by kernel_rfl
noncomputable def ir14 : LC := pk (ir0 Try.f14 [] []) _
theorem ir14_eq : IrV Try.f14 = (some ir14, 27, [.tmp 2]) := by kernel_rfl
noncomputable def ir15 : LC := pk (ir0 Try.f15 [] []) _
theorem ir15_eq : IrV Try.f15 = (some ir15, 12, [.tmp 2]) := by kernel_rfl
noncomputable def ir16 : LC := pk (ir0 Try.f16 [] []) _
theorem ir16_eq : IrV Try.f16 = (some ir16, 11, [.tmp 2]) := by kernel_rfl
noncomputable def ir17 : LC := pk (ir0 Try.f17 [] []) _
theorem ir17_eq : IrV Try.f17 = (some ir17, 12, [.tmp 2]) := by kernel_rfl
noncomputable def rc18 := rcs Try.f18
noncomputable def ir18_a0 : LC := (pk (fun r => ira Try.f18 [] [r 0] 0) _) rc18
noncomputable def ir18_b0 : LC := (pk (fun r => irb Try.f18 [] [r 0] 0) _) rc18
theorem ir18_a0_eq : low (rc18 0).1 = ir18_a0 := by kernel_rfl
theorem ir18_b0_eq : low (rc18 0).2 = ir18_b0 := by kernel_rfl
noncomputable def ir18 : LC := (pk (fun r => ir0 Try.f18 [] [r 0]) _) rc18
theorem ir18_eq : IrV Try.f18 = (some ir18, 95, [.tmp 4]) := by kernel_rfl
noncomputable def ir19 : LC := pk (ir0 Try.f19 [] []) _
theorem ir19_eq : IrV Try.f19 = (some ir19, 19, [.tmp 2]) := by kernel_rfl
noncomputable def ir20 : LC := pk (ir0 Try.f20 [] []) _
theorem ir20_eq : IrV Try.f20 = (some ir20, 11, [.tmp 2]) := by kernel_rfl
noncomputable def ir21 : LC := pk (ir0 Try.f21 [] []) _
theorem ir21_eq : IrV Try.f21 = (some ir21, 19, [.tmp 2]) := by kernel_rfl
noncomputable def ir22_l0 : LC := pk (irl Try.f22 [] [] 0) _
noncomputable def ir22 : LC := (pk (fun l0 => ir0 Try.f22 [l0] []) _) ir22_l0
theorem ir22_eq : IrV Try.f22 = (some ir22, 43, [.tmp 2, .tmp 3]) := by kernel_rfl
noncomputable def rc28 := rcs Try.f28
noncomputable def ir28_a0 : LC := (pk (fun r => ira Try.f28 [] [r 0] 0) _) rc28
noncomputable def ir28_b0 : LC := (pk (fun r => irb Try.f28 [] [r 0] 0) _) rc28
theorem ir28_a0_eq : low (rc28 0).1 = ir28_a0 := by kernel_rfl
theorem ir28_b0_eq : low (rc28 0).2 = ir28_b0 := by kernel_rfl
noncomputable def ir28 : LC := (pk (fun r => ir0 Try.f28 [] [r 0]) _) rc28
theorem ir28_eq : IrV Try.f28 = (some ir28, 36, [.tmp 2]) := by kernel_rfl
noncomputable def ir29 : LC := pk (ir0 Try.f29 [] []) _
theorem ir29_eq : IrV Try.f29 = (some ir29, 18, [.tmp 4, .tmp 5]) := by kernel_rfl
noncomputable def ir30 : LC := pk (ir0 Try.f30 [] []) _
theorem ir30_eq : IrV Try.f30 = (some ir30, 40, [.tmp 6]) := by kernel_rfl
noncomputable def ir32_l0 : LC := pk (irl Try.f32 [] [] 0) _
noncomputable def ir32 : LC := (pk (fun l0 => ir0 Try.f32 [l0] []) _) ir32_l0
theorem ir32_eq : IrV Try.f32 = (some ir32, 90, [.tmp 4, .tmp 5]) := by kernel_rfl
noncomputable def ir33 : LC := pk (ir0 Try.f33 [] []) _
theorem ir33_eq : IrV Try.f33 = (some ir33, 36, [.tmp 6, .tmp 7]) := by kernel_rfl
noncomputable def ir34_l0 : LC := pk (irl Try.f34 [] [] 0) _
noncomputable def ir34 : LC := (pk (fun l0 => ir0 Try.f34 [l0] []) _) ir34_l0
theorem ir34_eq : IrV Try.f34 = (some ir34, 85, [.cell 2 44, .tmp 3]) := by kernel_rfl
noncomputable def rc35 := rcs Try.f35
noncomputable def xE : LC := (pk (fun r => irl Try.f35 [] [r 0] 0) _) rc35
noncomputable def ir35_a0 : LC := (pk (fun l0 r => ira Try.f35 [l0] [r 0] 0) _) xE rc35
noncomputable def ir35_b0 : LC := (pk (fun l0 r => irb Try.f35 [l0] [r 0] 0) _) xE rc35
theorem ir35_a0_eq : low (rc35 0).1 = ir35_a0 := by kernel_rfl
theorem ir35_b0_eq : low (rc35 0).2 = ir35_b0 := by kernel_rfl
noncomputable def ir35 : LC := (pk (fun l0 r => ir0 Try.f35 [l0] [r 0]) _) xE rc35
theorem ir35_eq : IrV Try.f35 = (some ir35, 211, []) := by kernel_rfl
noncomputable def ir36 : LC := pk (ir0 Try.f36 [] []) _
theorem ir36_eq : IrV Try.f36 = (some ir36, 39, []) := by kernel_rfl
noncomputable def ir37 : LC := pk (ir0 Try.f37 [] []) _
theorem ir37_eq : IrV Try.f37 = (some ir37, 9, [.tmp 2]) := by kernel_rfl
noncomputable def ir38_l0 : LC := pk (irl Try.f38 [] [] 0) _
noncomputable def ir38 : LC := (pk (fun l0 => ir0 Try.f38 [l0] []) _) ir38_l0
theorem ir38_eq : IrV Try.f38 = (some ir38, 61, [.tmp 6]) := by kernel_rfl
noncomputable def ir39 : LC := pk (ir0 Try.f39 [] []) _
theorem ir39_eq : IrV Try.f39 = (some ir39, 12, [.tmp 2]) := by kernel_rfl
noncomputable def ir40 : LC := pk (ir0 Try.f40 [] []) _
theorem ir40_eq : IrV Try.f40 = (some ir40, 25, [.cell 2 86, .tmp 3]) := by kernel_rfl
noncomputable def ir41 : LC := pk (ir0 Try.f41 [] []) _
theorem ir41_eq : IrV Try.f41 = (some ir41, 23, [.tmp 4]) := by kernel_rfl
noncomputable def ir42 : LC := pk (ir0 Try.f42 [] []) _
theorem ir42_eq : IrV Try.f42 = (some ir42, 8, [.tmp 2]) := by kernel_rfl
noncomputable def ir43 : LC := pk (ir0 Try.f43 [] []) _
theorem ir43_eq : IrV Try.f43 = (some ir43, 9, [.tmp 4]) := by kernel_rfl
noncomputable def ir44_l0 : LC := pk (irl Try.f44 [] [] 0) _
noncomputable def ir44 : LC := (pk (fun l0 => ir0 Try.f44 [l0] []) _) ir44_l0
theorem ir44_eq : IrV Try.f44 = (some ir44, 17, [.tmp 2]) := by kernel_rfl
noncomputable def ir45 : LC := pk (ir0 Try.f45 [] []) _
theorem ir45_eq : IrV Try.f45 = (some ir45, 8, [.tmp 2]) := by kernel_rfl
noncomputable def rc46 := rcs Try.f46
noncomputable def ir46_a0 : LC := (pk (fun r => ira Try.f46 [] [r 0] 0) _) rc46
noncomputable def ir46_b0 : LC := (pk (fun r => irb Try.f46 [] [r 0] 0) _) rc46
theorem ir46_a0_eq : low (rc46 0).1 = ir46_a0 := by kernel_rfl
theorem ir46_b0_eq : low (rc46 0).2 = ir46_b0 := by kernel_rfl
noncomputable def ir46 : LC := (pk (fun r => ir0 Try.f46 [] [r 0]) _) rc46
theorem ir46_eq : IrV Try.f46 = (some ir46, 18, []) := by kernel_rfl
noncomputable def ir47 : LC := pk (ir0 Try.f47 [] []) _
theorem ir47_eq : IrV Try.f47 = (some ir47, 4, [.tmp 2]) := by kernel_rfl
noncomputable def ir56_l0 : LC := pk (irl Try.f56 [] [] 0) _
noncomputable def ir56 : LC := (pk (fun l0 => ir0 Try.f56 [l0] []) _) ir56_l0
theorem ir56_eq : IrV Try.f56 = (some ir56, 34, [.tmp 2]) := by kernel_rfl
noncomputable def ir58 : LC := pk (ir0 Try.f58 [] []) _
theorem ir58_eq : IrV Try.f58 = (some ir58, 11, [.tmp 2]) := by kernel_rfl
noncomputable def ir60 : LC := pk (ir0 Try.f60 [] []) _
theorem ir60_eq : IrV Try.f60 = (some ir60, 13, [.tmp 2]) := by kernel_rfl
noncomputable def ir61 : LC := pk (ir0 Try.f61 [] []) _
theorem ir61_eq : IrV Try.f61 = (some ir61, 8, [.tmp 2]) := by kernel_rfl
noncomputable def ir62 : LC := pk (ir0 Try.f62 [] []) _
theorem ir62_eq : IrV Try.f62 = (some ir62, 4, [.tmp 2]) := by kernel_rfl
noncomputable def ir63 : LC := pk (ir0 Try.f63 [] []) _
theorem ir63_eq : IrV Try.f63 = (some ir63, 21, [.tmp 4]) := by kernel_rfl
noncomputable def ir64 : LC := pk (ir0 Try.f64 [] []) _
theorem ir64_eq : IrV Try.f64 = (some ir64, 28, [.cell 4 101]) := by kernel_rfl
noncomputable def ir67 : LC := pk (ir0 Try.f67 [] []) _
theorem ir67_eq : IrV Try.f67 = (some ir67, 10, [.tmp 4]) := by kernel_rfl
noncomputable def ir68_l0 : LC := pk (irl Try.f68 [] [] 0) _
noncomputable def ir68 : LC := (pk (fun l0 => ir0 Try.f68 [l0] []) _) ir68_l0
theorem ir68_eq : IrV Try.f68 = (some ir68, 65, [.cell 2 44, .tmp 3]) := by kernel_rfl
noncomputable def ir69 : LC := pk (ir0 Try.f69 [] []) _
theorem ir69_eq : IrV Try.f69 = (some ir69, 7, [.tmp 2]) := by kernel_rfl
noncomputable def ir70 : LC := pk (ir0 Try.f70 [] []) _
theorem ir70_eq : IrV Try.f70 = (some ir70, 6, [.tmp 4]) := by kernel_rfl
noncomputable def ir71 : LC := pk (ir0 Try.f71 [] []) _
theorem ir71_eq : IrV Try.f71 = (some ir71, 22, [.tmp 2]) := by kernel_rfl
noncomputable def ir72_l0 : LC := pk (irl Try.f72 [] [] 0) _
noncomputable def ir72 : LC := (pk (fun l0 => ir0 Try.f72 [l0] []) _) ir72_l0
theorem ir72_eq : IrV Try.f72 = (some ir72, 18, [.tmp 2]) := by kernel_rfl
noncomputable def ir73_l0 : LC := pk (irl Try.f73 [] [] 0) _
noncomputable def ir73 : LC := (pk (fun l0 => ir0 Try.f73 [l0] []) _) ir73_l0
theorem ir73_eq : IrV Try.f73 = (some ir73, 31, []) := by kernel_rfl
noncomputable def ir74_l0 : LC := pk (irl Try.f74 [] [] 0) _
noncomputable def ir74 : LC := (pk (fun l0 => ir0 Try.f74 [l0] []) _) ir74_l0
theorem ir74_eq : IrV Try.f74 = (some ir74, 18, []) := by kernel_rfl
noncomputable def ir84_l0 : LC := pk (irl Try.f84 [] [] 0) _
noncomputable def ir84 : LC := (pk (fun l0 => ir0 Try.f84 [l0] []) _) ir84_l0
theorem ir84_eq : IrV Try.f84 = (some ir84, 17, []) := by kernel_rfl
noncomputable def ir89 : LC := pk (ir0 Try.f89 [] []) _
theorem ir89_eq : IrV Try.f89 = (some ir89, 11, [.tmp 2]) := by kernel_rfl
noncomputable def ir90_l0 : LC := pk (irl Try.f90 [] [] 0) _
noncomputable def ir90 : LC := (pk (fun l0 => ir0 Try.f90 [l0] []) _) ir90_l0
theorem ir90_eq : IrV Try.f90 = (some ir90, 61, [.tmp 2, .tmp 3]) := by kernel_rfl
noncomputable def ir91_l0 : LC := pk (irl Try.f91 [] [] 0) _
noncomputable def ir91 : LC := (pk (fun l0 => ir0 Try.f91 [l0] []) _) ir91_l0
theorem ir91_eq : IrV Try.f91 = (some ir91, 55, []) := by kernel_rfl
noncomputable def ir92 : LC := pk (ir0 Try.f92 [] []) _
theorem ir92_eq : IrV Try.f92 = (some ir92, 78, [.cell 2 90, .tmp 3, .tmp 4]) := by kernel_rfl
noncomputable def ir93_l0 : LC := pk (irl Try.f93 [] [] 0) _
noncomputable def ir93 : LC := (pk (fun l0 => ir0 Try.f93 [l0] []) _) ir93_l0
theorem ir93_eq : IrV Try.f93 = (some ir93, 20, [.tmp 2]) := by kernel_rfl
noncomputable def ir100 : LC := pk (ir0 Try.f100 [] []) _
theorem ir100_eq : IrV Try.f100 = (some ir100, 12, [.tmp 2]) := by kernel_rfl
noncomputable def ir101_l0 : LC := pk (irl Try.f101 [] [] 0) _
noncomputable def ir101 : LC := (pk (fun l0 => ir0 Try.f101 [l0] []) _) ir101_l0
theorem ir101_eq : IrV Try.f101 = (some ir101, 19, [.tmp 2]) := by kernel_rfl

end Go.Proofs.Ytakgjjbmniilhaa
