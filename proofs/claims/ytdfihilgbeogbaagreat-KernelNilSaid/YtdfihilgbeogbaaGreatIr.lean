/- The code of this seat struck bare (printed by program). -/
import Derived.Test.YtdfihilgbeogbaaGreatProg
import Derived.Test.YtdfihilgbeogbaaGreatV4
import Derived.KernelRfl
set_option linter.unusedVariables false
set_option linter.unusedSimpArgs false
set_option linter.unusedSimpArgs false
set_option maxRecDepth 100000
namespace Go.Proofs.YtdfihilgbeogbaaGreat
open Go Go.Vm
noncomputable def ir105 : LC := pk (ir0 Tryz.f105 [] []) _
theorem ir105_eq : IrV Tryz.f105 = (some ir105, 12, [.tmp 2]) := by kernel_rfl
noncomputable def ir167 : LC := pk (ir0 Tryz.f167 [] []) _
theorem ir167_eq : IrV Tryz.f167 = (some ir167, 9, [.tmp 2]) := by kernel_rfl
noncomputable def ir173_l0 : LC := pk (irl Tryz.f173 [] [] 0) _
noncomputable def ir173 : LC := (pk (fun l0 => ir0 Tryz.f173 [l0] []) _) ir173_l0
theorem ir173_eq : IrV Tryz.f173 = (some ir173, 27, [.tmp 4]) := by kernel_rfl
noncomputable def ir200 : LC := pk (ir0 Tryz.f200 [] []) _
theorem ir200_eq : IrV Tryz.f200 = (some ir200, 5, [.tmp 2]) := by kernel_rfl
noncomputable def ir202_l0 : LC := pk (irl Tryz.f202 [] [] 0) _
noncomputable def ir202 : LC := (pk (fun l0 => ir0 Tryz.f202 [l0] []) _) ir202_l0
theorem ir202_eq : IrV Tryz.f202 = (some ir202, 14, []) := by kernel_rfl
noncomputable def rc220 := rcs Tryz.f220
noncomputable def ir220_a0 : LC := (pk (fun r => ira Tryz.f220 [] [r 0] 0) _) rc220
noncomputable def ir220_b0 : LC := (pk (fun r => irb Tryz.f220 [] [r 0] 0) _) rc220
theorem ir220_a0_eq : low (rc220 0).1 = ir220_a0 := by kernel_rfl
theorem ir220_b0_eq : low (rc220 0).2 = ir220_b0 := by kernel_rfl
noncomputable def ir220 : LC := (pk (fun r => ir0 Tryz.f220 [] [r 0]) _) rc220
theorem ir220_eq : IrV Tryz.f220 = (some ir220, 13, [.tmp 4]) := by kernel_rfl

end Go.Proofs.YtdfihilgbeogbaaGreat
