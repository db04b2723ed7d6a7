/- Sizes and offsets of the types of this seat. -/
import Derived.Test.YtehgjkopobkbmaaProg
import Derived.Test.YtehgjkopobkbmaaV4
import Derived.KernelRfl
set_option linter.unusedVariables false
set_option linter.unusedSimpArgs false
set_option linter.unusedSimpArgs false
set_option maxRecDepth 100000
namespace Go.Proofs.Ytehgjkopobkbmaa
open Go Go.Vm
theorem hm : Try.prog.follows .mixedOrders = true := by kernel_rfl
theorem ag_2 : aggV Try.prog 2 = some false := by kernel_rfl
theorem ag_3 : aggV Try.prog 3 = some false := by kernel_rfl
theorem ag_4 : aggV Try.prog 4 = some false := by kernel_rfl
theorem ag_24 : aggV Try.prog 24 = some false := by kernel_rfl
theorem ag_27 : aggV Try.prog 27 = some false := by kernel_rfl
theorem ag_32 : aggV Try.prog 32 = some true := by kernel_rfl
theorem ag_40 : aggV Try.prog 40 = some true := by kernel_rfl
theorem ag_45 : aggV Try.prog 45 = some false := by kernel_rfl
theorem ag_59 : aggV Try.prog 59 = some false := by kernel_rfl
theorem ag_90 : aggV Try.prog 90 = some false := by kernel_rfl
theorem ag_108 : aggV Try.prog 108 = some false := by kernel_rfl
theorem fo_29_0 : fieldOff Try.prog 29 0 = some 0 := by kernel_rfl
theorem fo_29_1 : fieldOff Try.prog 29 1 = some 1 := by kernel_rfl
theorem fo_32_0 : fieldOff Try.prog 32 0 = some 0 := by kernel_rfl
theorem fo_32_1 : fieldOff Try.prog 32 1 = some 1 := by kernel_rfl
theorem fo_32_2 : fieldOff Try.prog 32 2 = some 2 := by kernel_rfl
theorem fo_32_3 : fieldOff Try.prog 32 3 = some 3 := by kernel_rfl
theorem fo_32_4 : fieldOff Try.prog 32 4 = some 4 := by kernel_rfl
theorem fo_32_5 : fieldOff Try.prog 32 5 = some 5 := by kernel_rfl
theorem fo_32_6 : fieldOff Try.prog 32 6 = some 6 := by kernel_rfl
theorem fo_40_0 : fieldOff Try.prog 40 0 = some 0 := by kernel_rfl
theorem fo_40_1 : fieldOff Try.prog 40 1 = some 1 := by kernel_rfl
theorem fo_40_2 : fieldOff Try.prog 40 2 = some 2 := by kernel_rfl
theorem fo_40_3 : fieldOff Try.prog 40 3 = some 3 := by kernel_rfl
theorem fo_40_4 : fieldOff Try.prog 40 4 = some 4 := by kernel_rfl
theorem fo_40_5 : fieldOff Try.prog 40 5 = some 5 := by kernel_rfl
theorem fo_40_6 : fieldOff Try.prog 40 6 = some 6 := by kernel_rfl
theorem fo_61_0 : fieldOff Try.prog 61 0 = some 0 := by kernel_rfl
theorem fo_61_1 : fieldOff Try.prog 61 1 = some 1 := by kernel_rfl
theorem is_22 : idxSlice Try.prog 22 = some 7 := by kernel_rfl
theorem is_27 : idxSlice Try.prog 27 = some 7 := by kernel_rfl
theorem is_45 : idxSlice Try.prog 45 = some 1 := by kernel_rfl
theorem is_62 : idxSlice Try.prog 62 = some 1 := by kernel_rfl
theorem sz_2 : szV Try.prog 2 = some 1 := by kernel_rfl
theorem sz_3 : szV Try.prog 3 = some 1 := by kernel_rfl
theorem sz_4 : szV Try.prog 4 = some 1 := by kernel_rfl
theorem sz_24 : szV Try.prog 24 = some 1 := by kernel_rfl
theorem sz_27 : szV Try.prog 27 = some 1 := by kernel_rfl
theorem sz_29 : szV Try.prog 29 = some 2 := by kernel_rfl
theorem sz_32 : szV Try.prog 32 = some 7 := by kernel_rfl
theorem sz_40 : szV Try.prog 40 = some 7 := by kernel_rfl
theorem sz_45 : szV Try.prog 45 = some 1 := by kernel_rfl
theorem sz_59 : szV Try.prog 59 = some 1 := by kernel_rfl
theorem sz_61 : szV Try.prog 61 = some 2 := by kernel_rfl
theorem sz_90 : szV Try.prog 90 = some 1 := by kernel_rfl
theorem sz_108 : szV Try.prog 108 = some 1 := by kernel_rfl
theorem zv_3 : zeroV Try.prog 3 = some (V.int IntKind.i64 0) := by kernel_rfl
theorem zv_4 : zeroV Try.prog 4 = some (V.bool false) := by kernel_rfl
theorem zv_24 : zeroV Try.prog 24 = some (V.ptr none) := by kernel_rfl
theorem zv_27 : zeroV Try.prog 27 = some (V.slice none 0 0 true) := by kernel_rfl
theorem zv_29 : zeroV Try.prog 29 = some (V.agg [V.slice none 0 0 true, V.int IntKind.i64 0]) := by kernel_rfl
theorem zv_32 : zeroV Try.prog 32 = some (V.agg [V.int IntKind.i64 0, V.int IntKind.i64 0, V.int IntKind.i64 0, V.int IntKind.i64 0, V.int IntKind.i64 0, V.int IntKind.i64 0, V.int IntKind.i64 0]) := by kernel_rfl
theorem zv_40 : zeroV Try.prog 40 = some (V.agg [V.int IntKind.i64 0, V.int IntKind.i64 0, V.int IntKind.i64 0, V.int IntKind.i64 0, V.int IntKind.i64 0, V.int IntKind.i64 0, V.int IntKind.i64 0]) := by kernel_rfl
theorem zv_45 : zeroV Try.prog 45 = some (V.slice none 0 0 true) := by kernel_rfl
theorem zv_61 : zeroV Try.prog 61 = some (V.agg [V.map none, V.int IntKind.i64 0]) := by kernel_rfl
theorem zv_90 : zeroV Try.prog 90 = some V.nilFunc := by kernel_rfl
theorem zv_108 : zeroV Try.prog 108 = some (V.int IntKind.u64 0) := by kernel_rfl
theorem bz_29 (ps : List (Nat × V)) : builtV Try.prog 29 ps = fillV (fun (i : Nat) => (([(0, 1), (1, 1)] : List (Nat × Nat)).toArray)[i]?) [V.slice none 0 0 true, V.int IntKind.i64 0] ps := by kernel_rfl
theorem bz_40 (ps : List (Nat × V)) : builtV Try.prog 40 ps = fillV (fun (i : Nat) => (([(0, 1), (1, 1), (2, 1), (3, 1), (4, 1), (5, 1), (6, 1)] : List (Nat × Nat)).toArray)[i]?) [V.int IntKind.i64 0, V.int IntKind.i64 0, V.int IntKind.i64 0, V.int IntKind.i64 0, V.int IntKind.i64 0, V.int IntKind.i64 0, V.int IntKind.i64 0] ps := by kernel_rfl
theorem bz_61 (ps : List (Nat × V)) : builtV Try.prog 61 ps = fillV (fun (i : Nat) => (([(0, 1), (1, 1)] : List (Nat × Nat)).toArray)[i]?) [V.map none, V.int IntKind.i64 0] ps := by kernel_rfl
theorem bs_27_1 (ps : List (Nat × V)) : builtSliceV Try.prog 27 1 ps = match fillV (fun i => some (i * 7, 7)) [V.int IntKind.i64 0, V.int IntKind.i64 0, V.int IntKind.i64 0, V.int IntKind.i64 0, V.int IntKind.i64 0, V.int IntKind.i64 0, V.int IntKind.i64 0] ps with | some r => some (40, r) | none => none := by kernel_rfl
theorem bs_45_1 (ps : List (Nat × V)) : builtSliceV Try.prog 45 1 ps = match fillV (fun i => some (i * 1, 1)) [V.int IntKind.i64 0] ps with | some r => some (2, r) | none => none := by kernel_rfl
theorem bs_62_2 (ps : List (Nat × V)) : builtSliceV Try.prog 62 2 ps = match fillV (fun i => some (i * 1, 1)) [V.ptr none, V.ptr none] ps with | some r => some (24, r) | none => none := by kernel_rfl
theorem ca_2 : callable Try.prog 2 = true := by kernel_rfl
theorem ca_3 : callable Try.prog 3 = true := by kernel_rfl
theorem ca_4 : callable Try.prog 4 = true := by kernel_rfl
theorem ca_5 : callable Try.prog 5 = true := by kernel_rfl
theorem ca_6 : callable Try.prog 6 = true := by kernel_rfl
theorem ca_7 : callable Try.prog 7 = true := by kernel_rfl
theorem ca_8 : callable Try.prog 8 = true := by kernel_rfl
theorem ca_9 : callable Try.prog 9 = true := by kernel_rfl
theorem ca_10 : callable Try.prog 10 = true := by kernel_rfl
theorem ca_11 : callable Try.prog 11 = true := by kernel_rfl
theorem ca_12 : callable Try.prog 12 = true := by kernel_rfl
theorem ca_13 : callable Try.prog 13 = true := by kernel_rfl
theorem ca_14 : callable Try.prog 14 = true := by kernel_rfl
theorem ca_15 : callable Try.prog 15 = true := by kernel_rfl
theorem ca_16 : callable Try.prog 16 = true := by kernel_rfl
theorem ca_17 : callable Try.prog 17 = true := by kernel_rfl
theorem ca_18 : callable Try.prog 18 = true := by kernel_rfl
theorem ca_19 : callable Try.prog 19 = true := by kernel_rfl
theorem ca_20 : callable Try.prog 20 = true := by kernel_rfl
theorem ca_21 : callable Try.prog 21 = true := by kernel_rfl
theorem ca_22 : callable Try.prog 22 = true := by kernel_rfl
theorem ca_23 : callable Try.prog 23 = true := by kernel_rfl
theorem ca_24 : callable Try.prog 24 = true := by kernel_rfl
theorem ca_25 : callable Try.prog 25 = true := by kernel_rfl
theorem ca_26 : callable Try.prog 26 = true := by kernel_rfl
theorem ca_27 : callable Try.prog 27 = true := by kernel_rfl
theorem ca_28 : callable Try.prog 28 = true := by kernel_rfl
theorem ca_29 : callable Try.prog 29 = true := by kernel_rfl
theorem ca_30 : callable Try.prog 30 = true := by kernel_rfl
theorem ca_31 : callable Try.prog 31 = true := by kernel_rfl
theorem ca_32 : callable Try.prog 32 = true := by kernel_rfl
theorem ca_33 : callable Try.prog 33 = true := by kernel_rfl
theorem ca_34 : callable Try.prog 34 = true := by kernel_rfl
theorem ca_35 : callable Try.prog 35 = true := by kernel_rfl
theorem ca_36 : callable Try.prog 36 = true := by kernel_rfl
theorem ca_37 : callable Try.prog 37 = true := by kernel_rfl
theorem ca_38 : callable Try.prog 38 = true := by kernel_rfl
theorem ca_39 : callable Try.prog 39 = true := by kernel_rfl
theorem ca_40 : callable Try.prog 40 = true := by kernel_rfl
theorem ca_41 : callable Try.prog 41 = true := by kernel_rfl
theorem ca_42 : callable Try.prog 42 = true := by kernel_rfl
theorem ca_43 : callable Try.prog 43 = true := by kernel_rfl
theorem ca_44 : callable Try.prog 44 = true := by kernel_rfl
theorem ca_45 : callable Try.prog 45 = true := by kernel_rfl
theorem ca_46 : callable Try.prog 46 = true := by kernel_rfl
theorem ca_47 : callable Try.prog 47 = true := by kernel_rfl
theorem ca_48 : callable Try.prog 48 = true := by kernel_rfl
theorem ca_49 : callable Try.prog 49 = true := by kernel_rfl
theorem ca_50 : callable Try.prog 50 = true := by kernel_rfl
theorem ca_51 : callable Try.prog 51 = true := by kernel_rfl
theorem ca_52 : callable Try.prog 52 = true := by kernel_rfl
theorem ca_53 : callable Try.prog 53 = true := by kernel_rfl
theorem ca_54 : callable Try.prog 54 = true := by kernel_rfl
theorem ca_55 : callable Try.prog 55 = true := by kernel_rfl
theorem ca_57 : callable Try.prog 57 = true := by kernel_rfl
theorem ca_58 : callable Try.prog 58 = true := by kernel_rfl
theorem ca_59 : callable Try.prog 59 = true := by kernel_rfl
theorem ca_60 : callable Try.prog 60 = true := by kernel_rfl
theorem ca_61 : callable Try.prog 61 = true := by kernel_rfl
theorem ca_62 : callable Try.prog 62 = true := by kernel_rfl
theorem ca_63 : callable Try.prog 63 = true := by kernel_rfl
theorem ca_64 : callable Try.prog 64 = true := by kernel_rfl
theorem ca_65 : callable Try.prog 65 = true := by kernel_rfl
theorem ca_66 : callable Try.prog 66 = true := by kernel_rfl
theorem ca_67 : callable Try.prog 67 = true := by kernel_rfl
theorem ca_68 : callable Try.prog 68 = true := by kernel_rfl
theorem ca_69 : callable Try.prog 69 = true := by kernel_rfl
theorem ca_70 : callable Try.prog 70 = true := by kernel_rfl
theorem ca_71 : callable Try.prog 71 = true := by kernel_rfl
theorem ca_72 : callable Try.prog 72 = true := by kernel_rfl
theorem ca_73 : callable Try.prog 73 = true := by kernel_rfl
theorem ca_74 : callable Try.prog 74 = true := by kernel_rfl
theorem ca_75 : callable Try.prog 75 = true := by kernel_rfl
theorem ca_76 : callable Try.prog 76 = true := by kernel_rfl
theorem ca_77 : callable Try.prog 77 = true := by kernel_rfl
attribute [go_sem] ag_2 ag_3 ag_4 ag_24 ag_27 ag_32 ag_40 ag_45 ag_59 ag_90 ag_108 fo_29_0 fo_29_1 fo_32_0 fo_32_1 fo_32_2 fo_32_3 fo_32_4 fo_32_5 fo_32_6 fo_40_0 fo_40_1 fo_40_2 fo_40_3 fo_40_4 fo_40_5 fo_40_6 fo_61_0 fo_61_1 is_22 is_27 is_45 is_62 sz_2 sz_3 sz_4 sz_24 sz_27 sz_29 sz_32 sz_40 sz_45 sz_59 sz_61 sz_90 sz_108 zv_3 zv_4 zv_24 zv_27 zv_29 zv_32 zv_40 zv_45 zv_61 zv_90 zv_108 bz_29 bz_40 bz_61 bs_27_1 bs_45_1 bs_62_2 Try.underlying2 Try.underlying3 Try.underlying4 Try.underlying5 Try.underlying9 Try.underlying20 Try.underlying22 Try.underlying24 Try.underlying26 Try.underlying27 Try.underlying32 Try.underlying37 Try.underlying40 Try.underlying41 Try.underlying45 Try.underlying59 Try.underlying76 Try.underlying95 Try.underlying97 Try.underlying105 Try.underlying107 Try.underlying108 Try.underlying112 ca_2 ca_3 ca_4 ca_5 ca_6 ca_7 ca_8 ca_9 ca_10 ca_11 ca_12 ca_13 ca_14 ca_15 ca_16 ca_17 ca_18 ca_19 ca_20 ca_21 ca_22 ca_23 ca_24 ca_25 ca_26 ca_27 ca_28 ca_29 ca_30 ca_31 ca_32 ca_33 ca_34 ca_35 ca_36 ca_37 ca_38 ca_39 ca_40 ca_41 ca_42 ca_43 ca_44 ca_45 ca_46 ca_47 ca_48 ca_49 ca_50 ca_51 ca_52 ca_53 ca_54 ca_55 ca_57 ca_58 ca_59 ca_60 ca_61 ca_62 ca_63 ca_64 ca_65 ca_66 ca_67 ca_68 ca_69 ca_70 ca_71 ca_72 ca_73 ca_74 ca_75 ca_76 ca_77
end Go.Proofs.Ytehgjkopobkbmaa
