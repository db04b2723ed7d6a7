/- Sizes and offsets of the types of this seat. -/
import Derived.Test.YtkfhdaimememiaaProg
import Derived.Test.YtkfhdaimememiaaV4
import Derived.KernelRfl
set_option linter.unusedVariables false
set_option linter.unusedSimpArgs false
set_option linter.unusedSimpArgs false
set_option maxRecDepth 100000
namespace Go.Proofs.Ytkfhdaimememiaa
open Go Go.Vm
theorem hm : Try.prog.follows .mixedOrders = true := by kernel_rfl
theorem ag_3 : aggV Try.prog 3 = some false := by kernel_rfl
theorem ag_4 : aggV Try.prog 4 = some false := by kernel_rfl
theorem ag_23 : aggV Try.prog 23 = some false := by kernel_rfl
theorem ag_24 : aggV Try.prog 24 = some false := by kernel_rfl
theorem ag_28 : aggV Try.prog 28 = some false := by kernel_rfl
theorem ag_30 : aggV Try.prog 30 = some true := by kernel_rfl
theorem ag_34 : aggV Try.prog 34 = some true := by kernel_rfl
theorem ag_42 : aggV Try.prog 42 = some false := by kernel_rfl
theorem ag_50 : aggV Try.prog 50 = some true := by kernel_rfl
theorem ag_59 : aggV Try.prog 59 = some true := by kernel_rfl
theorem ag_60 : aggV Try.prog 60 = some true := by kernel_rfl
theorem ag_61 : aggV Try.prog 61 = some true := by kernel_rfl
theorem ag_62 : aggV Try.prog 62 = some false := by kernel_rfl
theorem ag_76 : aggV Try.prog 76 = some false := by kernel_rfl
theorem ag_83 : aggV Try.prog 83 = some true := by kernel_rfl
theorem ag_87 : aggV Try.prog 87 = some true := by kernel_rfl
theorem ag_119 : aggV Try.prog 119 = some false := by kernel_rfl
theorem fo_30_0 : fieldOff Try.prog 30 0 = some 0 := by kernel_rfl
theorem fo_30_1 : fieldOff Try.prog 30 1 = some 1 := by kernel_rfl
theorem fo_30_2 : fieldOff Try.prog 30 2 = some 2 := by kernel_rfl
theorem fo_30_3 : fieldOff Try.prog 30 3 = some 3 := by kernel_rfl
theorem fo_30_4 : fieldOff Try.prog 30 4 = some 4 := by kernel_rfl
theorem fo_30_5 : fieldOff Try.prog 30 5 = some 5 := by kernel_rfl
theorem fo_34_0 : fieldOff Try.prog 34 0 = some 0 := by kernel_rfl
theorem fo_34_1 : fieldOff Try.prog 34 1 = some 1 := by kernel_rfl
theorem fo_34_2 : fieldOff Try.prog 34 2 = some 2 := by kernel_rfl
theorem fo_34_3 : fieldOff Try.prog 34 3 = some 3 := by kernel_rfl
theorem fo_50_0 : fieldOff Try.prog 50 0 = some 0 := by kernel_rfl
theorem fo_50_1 : fieldOff Try.prog 50 1 = some 1 := by kernel_rfl
theorem fo_59_0 : fieldOff Try.prog 59 0 = some 0 := by kernel_rfl
theorem fo_59_1 : fieldOff Try.prog 59 1 = some 1 := by kernel_rfl
theorem fo_64_0 : fieldOff Try.prog 64 0 = some 0 := by kernel_rfl
theorem fo_64_1 : fieldOff Try.prog 64 1 = some 2560 := by kernel_rfl
theorem fo_83_0 : fieldOff Try.prog 83 0 = some 0 := by kernel_rfl
theorem fo_83_1 : fieldOff Try.prog 83 1 = some 1 := by kernel_rfl
theorem fo_87_0 : fieldOff Try.prog 87 0 = some 0 := by kernel_rfl
theorem is_22 : idxSlice Try.prog 22 = some 6 := by kernel_rfl
theorem is_46 : idxSlice Try.prog 46 = some 2 := by kernel_rfl
theorem ia_60 : idxArray Try.prog 60 = some (32, 5) := by kernel_rfl
theorem ia_61 : idxArray Try.prog 61 = some (16, 160) := by kernel_rfl
theorem is_76 : idxSlice Try.prog 76 = some 1 := by kernel_rfl
theorem ia_84 : idxArray Try.prog 84 = some (32, 5) := by kernel_rfl
theorem ia_85 : idxArray Try.prog 85 = some (16, 160) := by kernel_rfl
theorem sz_3 : szV Try.prog 3 = some 1 := by kernel_rfl
theorem sz_4 : szV Try.prog 4 = some 1 := by kernel_rfl
theorem sz_23 : szV Try.prog 23 = some 1 := by kernel_rfl
theorem sz_24 : szV Try.prog 24 = some 1 := by kernel_rfl
theorem sz_28 : szV Try.prog 28 = some 1 := by kernel_rfl
theorem sz_30 : szV Try.prog 30 = some 6 := by kernel_rfl
theorem sz_34 : szV Try.prog 34 = some 4 := by kernel_rfl
theorem sz_42 : szV Try.prog 42 = some 1 := by kernel_rfl
theorem sz_50 : szV Try.prog 50 = some 2 := by kernel_rfl
theorem sz_59 : szV Try.prog 59 = some 5 := by kernel_rfl
theorem sz_60 : szV Try.prog 60 = some 160 := by kernel_rfl
theorem sz_61 : szV Try.prog 61 = some 2560 := by kernel_rfl
theorem sz_62 : szV Try.prog 62 = some 1 := by kernel_rfl
theorem sz_64 : szV Try.prog 64 = some 2561 := by kernel_rfl
theorem sz_76 : szV Try.prog 76 = some 1 := by kernel_rfl
theorem sz_83 : szV Try.prog 83 = some 5 := by kernel_rfl
theorem sz_87 : szV Try.prog 87 = some 2560 := by kernel_rfl
theorem sz_119 : szV Try.prog 119 = some 1 := by kernel_rfl
theorem zv_3 : zeroV Try.prog 3 = some (V.int IntKind.i64 0) := by kernel_rfl
theorem zv_4 : zeroV Try.prog 4 = some (V.bool false) := by kernel_rfl
theorem zv_30 : zeroV Try.prog 30 = some (V.agg [V.int IntKind.i64 0, V.int IntKind.i64 0, V.int IntKind.i64 0, V.int IntKind.i64 0, V.int IntKind.i64 0, V.int IntKind.u32 0]) := by kernel_rfl
theorem zv_34 : zeroV Try.prog 34 = some (V.agg [V.int IntKind.i64 0, V.int IntKind.i64 0, V.bool false, V.bool false]) := by kernel_rfl
theorem zv_41 : zeroV Try.prog 41 = some (V.agg [V.int IntKind.i64 0, V.int IntKind.i64 0, V.int IntKind.i64 0]) := by kernel_rfl
theorem zv_42 : zeroV Try.prog 42 = some (V.int IntKind.i64 0) := by kernel_rfl
theorem zv_50 : zeroV Try.prog 50 = some (V.agg [V.int IntKind.i64 0, V.int IntKind.i64 0]) := by kernel_rfl
theorem zv_59 : zeroV Try.prog 59 = some (V.agg [V.bool false, V.int IntKind.i64 0, V.int IntKind.i64 0, V.bool false, V.bool false]) := by kernel_rfl
theorem zv_76 : zeroV Try.prog 76 = some (V.slice none 0 0 true) := by kernel_rfl
theorem zv_83 : zeroV Try.prog 83 = some (V.agg [V.bool false, V.int IntKind.i64 0, V.int IntKind.i64 0, V.bool false, V.bool false]) := by kernel_rfl
theorem zv_119 : zeroV Try.prog 119 = some (V.int IntKind.u64 0) := by kernel_rfl
theorem bz_34 (ps : List (Nat × V)) : builtV Try.prog 34 ps = fillV (fun (i : Nat) => (([(0, 1), (1, 1), (2, 1), (3, 1)] : List (Nat × Nat)).toArray)[i]?) [V.int IntKind.i64 0, V.int IntKind.i64 0, V.bool false, V.bool false] ps := by kernel_rfl
theorem bz_50 (ps : List (Nat × V)) : builtV Try.prog 50 ps = fillV (fun (i : Nat) => (([(0, 1), (1, 1)] : List (Nat × Nat)).toArray)[i]?) [V.int IntKind.i64 0, V.int IntKind.i64 0] ps := by kernel_rfl
theorem bz_59 (ps : List (Nat × V)) : builtV Try.prog 59 ps = fillV (fun (i : Nat) => (([(0, 1), (1, 4)] : List (Nat × Nat)).toArray)[i]?) [V.bool false, V.int IntKind.i64 0, V.int IntKind.i64 0, V.bool false, V.bool false] ps := by kernel_rfl
noncomputable def zc_64 : List V := ((zeroV Try.prog 64).getD undefV).cellsV
theorem zcl_64 : zc_64.length = 2561 := by kernel_rfl
theorem bz_64 (ps : List (Nat × V)) : builtV Try.prog 64 ps = fillV (fun (i : Nat) => (([(0, 2560), (2560, 1)] : List (Nat × Nat)).toArray)[i]?) zc_64 ps := by kernel_rfl
theorem bz_83 (ps : List (Nat × V)) : builtV Try.prog 83 ps = fillV (fun (i : Nat) => (([(0, 1), (1, 4)] : List (Nat × Nat)).toArray)[i]?) [V.bool false, V.int IntKind.i64 0, V.int IntKind.i64 0, V.bool false, V.bool false] ps := by kernel_rfl
noncomputable def zc_87 : List V := ((zeroV Try.prog 87).getD undefV).cellsV
theorem zcl_87 : zc_87.length = 2560 := by kernel_rfl
theorem bz_87 (ps : List (Nat × V)) : builtV Try.prog 87 ps = fillV (fun (i : Nat) => (([(0, 2560)] : List (Nat × Nat)).toArray)[i]?) zc_87 ps := by kernel_rfl
theorem bs_46_1 (ps : List (Nat × V)) : builtSliceV Try.prog 46 1 ps = match fillV (fun i => some (i * 2, 2)) [V.int IntKind.i64 0, V.int IntKind.i64 0] ps with | some r => some (50, r) | none => none := by kernel_rfl
theorem bs_76_1 (ps : List (Nat × V)) : builtSliceV Try.prog 76 1 ps = match fillV (fun i => some (i * 1, 1)) [V.int IntKind.i64 0] ps with | some r => some (3, r) | none => none := by kernel_rfl
theorem bs_76_2 (ps : List (Nat × V)) : builtSliceV Try.prog 76 2 ps = match fillV (fun i => some (i * 1, 1)) [V.int IntKind.i64 0, V.int IntKind.i64 0] ps with | some r => some (3, r) | none => none := by kernel_rfl
theorem ca_2 : callable Try.prog 2 = true := by kernel_rfl
theorem ca_3 : callable Try.prog 3 = true := by kernel_rfl
theorem ca_4 : callable Try.prog 4 = true := by kernel_rfl
theorem ca_5 : callable Try.prog 5 = true := by kernel_rfl
theorem ca_6 : callable Try.prog 6 = true := by kernel_rfl
theorem ca_7 : callable Try.prog 7 = true := by kernel_rfl
theorem ca_8 : callable Try.prog 8 = true := by kernel_rfl
theorem ca_9 : callable Try.prog 9 = true := by kernel_rfl
theorem ca_10 : callable Try.prog 10 = true := by kernel_rfl
theorem ca_11 : callable Try.prog 11 = true := by kernel_rfl
theorem ca_12 : callable Try.prog 12 = true := by kernel_rfl
theorem ca_13 : callable Try.prog 13 = true := by kernel_rfl
theorem ca_14 : callable Try.prog 14 = true := by kernel_rfl
theorem ca_15 : callable Try.prog 15 = true := by kernel_rfl
theorem ca_16 : callable Try.prog 16 = true := by kernel_rfl
theorem ca_17 : callable Try.prog 17 = true := by kernel_rfl
theorem ca_18 : callable Try.prog 18 = true := by kernel_rfl
theorem ca_19 : callable Try.prog 19 = true := by kernel_rfl
theorem ca_20 : callable Try.prog 20 = true := by kernel_rfl
theorem ca_21 : callable Try.prog 21 = true := by kernel_rfl
theorem ca_22 : callable Try.prog 22 = true := by kernel_rfl
theorem ca_23 : callable Try.prog 23 = true := by kernel_rfl
theorem ca_24 : callable Try.prog 24 = true := by kernel_rfl
theorem ca_25 : callable Try.prog 25 = true := by kernel_rfl
theorem ca_26 : callable Try.prog 26 = true := by kernel_rfl
theorem ca_27 : callable Try.prog 27 = true := by kernel_rfl
theorem ca_28 : callable Try.prog 28 = true := by kernel_rfl
theorem ca_29 : callable Try.prog 29 = true := by kernel_rfl
theorem ca_30 : callable Try.prog 30 = true := by kernel_rfl
theorem ca_31 : callable Try.prog 31 = true := by kernel_rfl
theorem ca_32 : callable Try.prog 32 = true := by kernel_rfl
theorem ca_33 : callable Try.prog 33 = true := by kernel_rfl
theorem ca_34 : callable Try.prog 34 = true := by kernel_rfl
theorem ca_35 : callable Try.prog 35 = true := by kernel_rfl
theorem ca_36 : callable Try.prog 36 = true := by kernel_rfl
theorem ca_37 : callable Try.prog 37 = true := by kernel_rfl
theorem ca_38 : callable Try.prog 38 = true := by kernel_rfl
theorem ca_39 : callable Try.prog 39 = true := by kernel_rfl
theorem ca_40 : callable Try.prog 40 = true := by kernel_rfl
theorem ca_41 : callable Try.prog 41 = true := by kernel_rfl
theorem ca_42 : callable Try.prog 42 = true := by kernel_rfl
theorem ca_43 : callable Try.prog 43 = true := by kernel_rfl
theorem ca_44 : callable Try.prog 44 = true := by kernel_rfl
theorem ca_45 : callable Try.prog 45 = true := by kernel_rfl
theorem ca_46 : callable Try.prog 46 = true := by kernel_rfl
theorem ca_47 : callable Try.prog 47 = true := by kernel_rfl
theorem ca_48 : callable Try.prog 48 = true := by kernel_rfl
theorem ca_49 : callable Try.prog 49 = true := by kernel_rfl
theorem ca_50 : callable Try.prog 50 = true := by kernel_rfl
theorem ca_51 : callable Try.prog 51 = true := by kernel_rfl
theorem ca_52 : callable Try.prog 52 = true := by kernel_rfl
theorem ca_53 : callable Try.prog 53 = true := by kernel_rfl
theorem ca_54 : callable Try.prog 54 = true := by kernel_rfl
theorem ca_55 : callable Try.prog 55 = true := by kernel_rfl
theorem ca_56 : callable Try.prog 56 = true := by kernel_rfl
theorem ca_57 : callable Try.prog 57 = true := by kernel_rfl
theorem ca_58 : callable Try.prog 58 = true := by kernel_rfl
theorem ca_59 : callable Try.prog 59 = true := by kernel_rfl
theorem ca_60 : callable Try.prog 60 = true := by kernel_rfl
theorem ca_61 : callable Try.prog 61 = true := by kernel_rfl
theorem ca_62 : callable Try.prog 62 = true := by kernel_rfl
theorem ca_63 : callable Try.prog 63 = true := by kernel_rfl
theorem ca_64 : callable Try.prog 64 = true := by kernel_rfl
theorem ca_65 : callable Try.prog 65 = true := by kernel_rfl
theorem ca_66 : callable Try.prog 66 = true := by kernel_rfl
theorem ca_67 : callable Try.prog 67 = true := by kernel_rfl
theorem ca_68 : callable Try.prog 68 = true := by kernel_rfl
theorem ca_69 : callable Try.prog 69 = true := by kernel_rfl
theorem ca_70 : callable Try.prog 70 = true := by kernel_rfl
theorem ca_71 : callable Try.prog 71 = true := by kernel_rfl
theorem ca_72 : callable Try.prog 72 = true := by kernel_rfl
theorem ca_73 : callable Try.prog 73 = true := by kernel_rfl
theorem ca_74 : callable Try.prog 74 = true := by kernel_rfl
attribute [go_sem] ag_3 ag_4 ag_23 ag_24 ag_28 ag_30 ag_34 ag_42 ag_50 ag_59 ag_60 ag_61 ag_62 ag_76 ag_83 ag_87 ag_119 fo_30_0 fo_30_1 fo_30_2 fo_30_3 fo_30_4 fo_30_5 fo_34_0 fo_34_1 fo_34_2 fo_34_3 fo_50_0 fo_50_1 fo_59_0 fo_59_1 fo_64_0 fo_64_1 fo_83_0 fo_83_1 fo_87_0 is_22 is_46 ia_60 ia_61 is_76 ia_84 ia_85 sz_3 sz_4 sz_23 sz_24 sz_28 sz_30 sz_34 sz_42 sz_50 sz_59 sz_60 sz_61 sz_62 sz_64 sz_76 sz_83 sz_87 sz_119 zv_3 zv_4 zv_30 zv_34 zv_41 zv_42 zv_50 zv_59 zv_76 zv_83 zv_119 bz_34 bz_50 bz_59 bz_64 bz_83 bz_87 bs_46_1 bs_76_1 bs_76_2 Try.underlying3 Try.underlying4 Try.underlying5 Try.underlying9 Try.underlying22 Try.underlying23 Try.underlying24 Try.underlying28 Try.underlying30 Try.underlying34 Try.underlying41 Try.underlying42 Try.underlying46 Try.underlying50 Try.underlying60 Try.underlying61 Try.underlying62 Try.underlying76 Try.underlying87 Try.underlying92 Try.underlying94 Try.underlying98 Try.underlying103 Try.underlying109 Try.underlying118 Try.underlying119 Try.underlying123 ca_2 ca_3 ca_4 ca_5 ca_6 ca_7 ca_8 ca_9 ca_10 ca_11 ca_12 ca_13 ca_14 ca_15 ca_16 ca_17 ca_18 ca_19 ca_20 ca_21 ca_22 ca_23 ca_24 ca_25 ca_26 ca_27 ca_28 ca_29 ca_30 ca_31 ca_32 ca_33 ca_34 ca_35 ca_36 ca_37 ca_38 ca_39 ca_40 ca_41 ca_42 ca_43 ca_44 ca_45 ca_46 ca_47 ca_48 ca_49 ca_50 ca_51 ca_52 ca_53 ca_54 ca_55 ca_56 ca_57 ca_58 ca_59 ca_60 ca_61 ca_62 ca_63 ca_64 ca_65 ca_66 ca_67 ca_68 ca_69 ca_70 ca_71 ca_72 ca_73 ca_74
end Go.Proofs.Ytkfhdaimememiaa
