/- Sizes and offsets of the types of this seat. -/
import Derived.Test.YtdfihilgbeogbaaGreatProg
import Derived.Test.YtdfihilgbeogbaaGreatV4
import Derived.KernelRfl
set_option linter.unusedVariables false
set_option linter.unusedSimpArgs false
set_option linter.unusedSimpArgs false
set_option maxRecDepth 100000
namespace Go.Proofs.YtdfihilgbeogbaaGreat
open Go Go.Vm
theorem hm : Tryz.prog.follows .mixedOrders = true := by kernel_rfl
theorem ag_3 : aggV Tryz.prog 3 = some false := by kernel_rfl
theorem ag_87 : aggV Tryz.prog 87 = some false := by kernel_rfl
theorem ag_190 : aggV Tryz.prog 190 = some true := by kernel_rfl
theorem ag_200 : aggV Tryz.prog 200 = some false := by kernel_rfl
theorem fo_190_3 : fieldOff Tryz.prog 190 3 = some 3 := by kernel_rfl
theorem fo_202_0 : fieldOff Tryz.prog 202 0 = some 0 := by kernel_rfl
theorem sz_3 : szV Tryz.prog 3 = some 1 := by kernel_rfl
theorem sz_87 : szV Tryz.prog 87 = some 1 := by kernel_rfl
theorem sz_190 : szV Tryz.prog 190 = some 7 := by kernel_rfl
theorem sz_200 : szV Tryz.prog 200 = some 1 := by kernel_rfl
theorem zv_190 : zeroV Tryz.prog 190 = some (V.agg [V.int IntKind.i64 0, V.int IntKind.i64 0, V.int IntKind.i64 0, V.int IntKind.i64 0, V.int IntKind.i64 0, V.int IntKind.i64 0, V.int IntKind.i64 0]) := by kernel_rfl
theorem bs_87_1 (ps : List (Nat × V)) : builtSliceV Tryz.prog 87 1 ps = match fillV (fun i => some (i * 1, 1)) [V.int IntKind.i64 0] ps with | some r => some (2, r) | none => none := by kernel_rfl
theorem ca_105 : callable Tryz.prog 105 = true := by kernel_rfl
theorem ca_200 : callable Tryz.prog 200 = true := by kernel_rfl
theorem ca_201 : callable Tryz.prog 201 = true := by kernel_rfl
theorem ca_202 : callable Tryz.prog 202 = true := by kernel_rfl
theorem ca_220 : callable Tryz.prog 220 = true := by kernel_rfl
attribute [go_sem] ag_3 ag_87 ag_190 ag_200 fo_190_3 fo_202_0 sz_3 sz_87 sz_190 sz_200 zv_190 bs_87_1 Tryz.underlying2 Tryz.underlying3 Tryz.underlying71 Tryz.underlying87 Tryz.underlying98 Tryz.underlying200 Tryz.underlying295 ca_105 ca_200 ca_201 ca_202 ca_220
end Go.Proofs.YtdfihilgbeogbaaGreat
