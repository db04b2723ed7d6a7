/- Sizes and offsets of the types of this seat. -/
import Derived.Test.YthdkhbhicimpdaaProg
import Derived.Test.YthdkhbhicimpdaaV4
import Derived.KernelRfl
set_option linter.unusedVariables false
set_option maxRecDepth 100000
namespace Go.Proofs.Ythdkhbhicimpdaa
open Go Go.Vm
theorem hm : Try.prog.follows .mixedOrders = true := by kernel_rfl
theorem ag_2 : aggV Try.prog 2 = some false := by kernel_rfl
theorem ag_3 : aggV Try.prog 3 = some false := by kernel_rfl
theorem ag_4 : aggV Try.prog 4 = some false := by kernel_rfl
theorem ag_5 : aggV Try.prog 5 = some false := by kernel_rfl
theorem ag_22 : aggV Try.prog 22 = some false := by kernel_rfl
theorem ag_25 : aggV Try.prog 25 = some false := by kernel_rfl
theorem ag_26 : aggV Try.prog 26 = some false := by kernel_rfl
theorem ag_27 : aggV Try.prog 27 = some false := by kernel_rfl
theorem ag_29 : aggV Try.prog 29 = some true := by kernel_rfl
theorem ag_45 : aggV Try.prog 45 = some false := by kernel_rfl
theorem ag_46 : aggV Try.prog 46 = some false := by kernel_rfl
theorem ag_48 : aggV Try.prog 48 = some true := by kernel_rfl
theorem ag_55 : aggV Try.prog 55 = some false := by kernel_rfl
theorem ag_57 : aggV Try.prog 57 = some true := by kernel_rfl
theorem ag_60 : aggV Try.prog 60 = some true := by kernel_rfl
theorem ag_64 : aggV Try.prog 64 = some false := by kernel_rfl
theorem ag_65 : aggV Try.prog 65 = some false := by kernel_rfl
theorem ag_66 : aggV Try.prog 66 = some false := by kernel_rfl
theorem ag_80 : aggV Try.prog 80 = some false := by kernel_rfl
theorem ag_81 : aggV Try.prog 81 = some false := by kernel_rfl
theorem ag_85 : aggV Try.prog 85 = some false := by kernel_rfl
theorem ag_86 : aggV Try.prog 86 = some false := by kernel_rfl
theorem ag_113 : aggV Try.prog 113 = some true := by kernel_rfl
theorem ag_118 : aggV Try.prog 118 = some true := by kernel_rfl
theorem ag_121 : aggV Try.prog 121 = some false := by kernel_rfl
theorem ag_123 : aggV Try.prog 123 = some false := by kernel_rfl
theorem ag_125 : aggV Try.prog 125 = some true := by kernel_rfl
theorem fo_29_0 : fieldOff Try.prog 29 0 = some 0 := by kernel_rfl
theorem fo_29_1 : fieldOff Try.prog 29 1 = some 1 := by kernel_rfl
theorem fo_29_2 : fieldOff Try.prog 29 2 = some 2 := by kernel_rfl
theorem fo_48_0 : fieldOff Try.prog 48 0 = some 0 := by kernel_rfl
theorem fo_48_1 : fieldOff Try.prog 48 1 = some 1 := by kernel_rfl
theorem fo_48_2 : fieldOff Try.prog 48 2 = some 2 := by kernel_rfl
theorem fo_48_3 : fieldOff Try.prog 48 3 = some 3 := by kernel_rfl
theorem fo_48_4 : fieldOff Try.prog 48 4 = some 4 := by kernel_rfl
theorem fo_48_5 : fieldOff Try.prog 48 5 = some 5 := by kernel_rfl
theorem fo_57_0 : fieldOff Try.prog 57 0 = some 0 := by kernel_rfl
theorem fo_57_1 : fieldOff Try.prog 57 1 = some 1 := by kernel_rfl
theorem fo_57_2 : fieldOff Try.prog 57 2 = some 2 := by kernel_rfl
theorem fo_60_0 : fieldOff Try.prog 60 0 = some 0 := by kernel_rfl
theorem fo_60_1 : fieldOff Try.prog 60 1 = some 1 := by kernel_rfl
theorem fo_60_2 : fieldOff Try.prog 60 2 = some 25 := by kernel_rfl
theorem fo_68_0 : fieldOff Try.prog 68 0 = some 0 := by kernel_rfl
theorem fo_68_1 : fieldOff Try.prog 68 1 = some 1 := by kernel_rfl
theorem fo_68_2 : fieldOff Try.prog 68 2 = some 2 := by kernel_rfl
theorem fo_83_0 : fieldOff Try.prog 83 0 = some 0 := by kernel_rfl
theorem fo_83_1 : fieldOff Try.prog 83 1 = some 1 := by kernel_rfl
theorem fo_83_2 : fieldOff Try.prog 83 2 = some 2 := by kernel_rfl
theorem fo_88_0 : fieldOff Try.prog 88 0 = some 0 := by kernel_rfl
theorem fo_88_1 : fieldOff Try.prog 88 1 = some 1 := by kernel_rfl
theorem fo_88_2 : fieldOff Try.prog 88 2 = some 2 := by kernel_rfl
theorem fo_118_0 : fieldOff Try.prog 118 0 = some 0 := by kernel_rfl
theorem fo_118_1 : fieldOff Try.prog 118 1 = some 1 := by kernel_rfl
theorem fo_125_0 : fieldOff Try.prog 125 0 = some 0 := by kernel_rfl
theorem fo_125_1 : fieldOff Try.prog 125 1 = some 1 := by kernel_rfl
theorem is_22 : idxSlice Try.prog 22 = some 1 := by kernel_rfl
theorem is_36 : idxSlice Try.prog 36 = some 6 := by kernel_rfl
theorem is_45 : idxSlice Try.prog 45 = some 1 := by kernel_rfl
theorem is_46 : idxSlice Try.prog 46 = some 2 := by kernel_rfl
theorem is_55 : idxSlice Try.prog 55 = some 1 := by kernel_rfl
theorem ia_58 : idxArray Try.prog 58 = some (8, 3) := by kernel_rfl
theorem is_64 : idxSlice Try.prog 64 = some 1 := by kernel_rfl
theorem is_66 : idxSlice Try.prog 66 = some 1 := by kernel_rfl
theorem is_80 : idxSlice Try.prog 80 = some 1 := by kernel_rfl
theorem is_81 : idxSlice Try.prog 81 = some 1 := by kernel_rfl
theorem is_85 : idxSlice Try.prog 85 = some 128 := by kernel_rfl
theorem is_121 : idxSlice Try.prog 121 = some 2 := by kernel_rfl
theorem sz_2 : szV Try.prog 2 = some 1 := by kernel_rfl
theorem sz_3 : szV Try.prog 3 = some 1 := by kernel_rfl
theorem sz_4 : szV Try.prog 4 = some 1 := by kernel_rfl
theorem sz_5 : szV Try.prog 5 = some 1 := by kernel_rfl
theorem sz_22 : szV Try.prog 22 = some 1 := by kernel_rfl
theorem sz_25 : szV Try.prog 25 = some 1 := by kernel_rfl
theorem sz_26 : szV Try.prog 26 = some 1 := by kernel_rfl
theorem sz_27 : szV Try.prog 27 = some 1 := by kernel_rfl
theorem sz_29 : szV Try.prog 29 = some 3 := by kernel_rfl
theorem sz_45 : szV Try.prog 45 = some 1 := by kernel_rfl
theorem sz_46 : szV Try.prog 46 = some 1 := by kernel_rfl
theorem sz_48 : szV Try.prog 48 = some 6 := by kernel_rfl
theorem sz_55 : szV Try.prog 55 = some 1 := by kernel_rfl
theorem sz_57 : szV Try.prog 57 = some 3 := by kernel_rfl
theorem sz_60 : szV Try.prog 60 = some 26 := by kernel_rfl
theorem sz_64 : szV Try.prog 64 = some 1 := by kernel_rfl
theorem sz_65 : szV Try.prog 65 = some 1 := by kernel_rfl
theorem sz_66 : szV Try.prog 66 = some 1 := by kernel_rfl
theorem sz_68 : szV Try.prog 68 = some 3 := by kernel_rfl
theorem sz_80 : szV Try.prog 80 = some 1 := by kernel_rfl
theorem sz_81 : szV Try.prog 81 = some 1 := by kernel_rfl
theorem sz_83 : szV Try.prog 83 = some 3 := by kernel_rfl
theorem sz_85 : szV Try.prog 85 = some 1 := by kernel_rfl
theorem sz_86 : szV Try.prog 86 = some 1 := by kernel_rfl
theorem sz_88 : szV Try.prog 88 = some 3 := by kernel_rfl
theorem sz_113 : szV Try.prog 113 = some 128 := by kernel_rfl
theorem sz_118 : szV Try.prog 118 = some 2 := by kernel_rfl
theorem sz_121 : szV Try.prog 121 = some 1 := by kernel_rfl
theorem sz_123 : szV Try.prog 123 = some 1 := by kernel_rfl
theorem sz_125 : szV Try.prog 125 = some 2 := by kernel_rfl
theorem zv_3 : zeroV Try.prog 3 = some (V.int IntKind.i64 0) := by kernel_rfl
theorem zv_4 : zeroV Try.prog 4 = some (V.bool false) := by kernel_rfl
theorem zv_26 : zeroV Try.prog 26 = some (V.ptr none) := by kernel_rfl
theorem zv_29 : zeroV Try.prog 29 = some (V.agg [V.ptr none, V.ptr none, V.ptr none]) := by kernel_rfl
theorem zv_48 : zeroV Try.prog 48 = some (V.agg [V.int IntKind.i64 0, V.int IntKind.i64 0, V.int IntKind.i64 0, V.int IntKind.i64 0, V.slice none 0 0 true, V.slice none 0 0 true]) := by kernel_rfl
theorem zv_57 : zeroV Try.prog 57 = some (V.agg [V.int IntKind.i64 0, V.int IntKind.i64 0, V.slice none 0 0 true]) := by kernel_rfl
theorem zv_68 : zeroV Try.prog 68 = some (V.agg [V.ptr none, V.slice none 0 0 true, V.slice none 0 0 true]) := by kernel_rfl
theorem zv_83 : zeroV Try.prog 83 = some (V.agg [V.slice none 0 0 true, V.slice none 0 0 true, V.int IntKind.i64 0]) := by kernel_rfl
theorem zv_88 : zeroV Try.prog 88 = some (V.agg [V.slice none 0 0 true, V.map none, V.int IntKind.i64 0]) := by kernel_rfl
theorem zv_118 : zeroV Try.prog 118 = some (V.agg [V.int IntKind.i64 0, V.int IntKind.i64 0]) := by kernel_rfl
theorem zv_121 : zeroV Try.prog 121 = some (V.slice none 0 0 true) := by kernel_rfl
theorem zv_125 : zeroV Try.prog 125 = some (V.agg [V.int IntKind.i64 0, V.int IntKind.i64 0]) := by kernel_rfl
theorem bz_29 (ps : List (Nat × V)) : builtV Try.prog 29 ps = fillV (fun (i : Nat) => (([(0, 1), (1, 1), (2, 1)] : List (Nat × Nat)).toArray)[i]?) [V.ptr none, V.ptr none, V.ptr none] ps := by kernel_rfl
theorem bz_57 (ps : List (Nat × V)) : builtV Try.prog 57 ps = fillV (fun (i : Nat) => (([(0, 1), (1, 1), (2, 1)] : List (Nat × Nat)).toArray)[i]?) [V.int IntKind.i64 0, V.int IntKind.i64 0, V.slice none 0 0 true] ps := by kernel_rfl
noncomputable def zc_60 : List V := ((zeroV Try.prog 60).getD undefV).cellsV
theorem zcl_60 : zc_60.length = 26 := by kernel_rfl
theorem bz_60 (ps : List (Nat × V)) : builtV Try.prog 60 ps = fillV (fun (i : Nat) => (([(0, 1), (1, 24), (25, 1)] : List (Nat × Nat)).toArray)[i]?) zc_60 ps := by kernel_rfl
theorem bz_68 (ps : List (Nat × V)) : builtV Try.prog 68 ps = fillV (fun (i : Nat) => (([(0, 1), (1, 1), (2, 1)] : List (Nat × Nat)).toArray)[i]?) [V.ptr none, V.slice none 0 0 true, V.slice none 0 0 true] ps := by kernel_rfl
theorem bz_83 (ps : List (Nat × V)) : builtV Try.prog 83 ps = fillV (fun (i : Nat) => (([(0, 1), (1, 1), (2, 1)] : List (Nat × Nat)).toArray)[i]?) [V.slice none 0 0 true, V.slice none 0 0 true, V.int IntKind.i64 0] ps := by kernel_rfl
theorem bz_88 (ps : List (Nat × V)) : builtV Try.prog 88 ps = fillV (fun (i : Nat) => (([(0, 1), (1, 1), (2, 1)] : List (Nat × Nat)).toArray)[i]?) [V.slice none 0 0 true, V.map none, V.int IntKind.i64 0] ps := by kernel_rfl
theorem bz_118 (ps : List (Nat × V)) : builtV Try.prog 118 ps = fillV (fun (i : Nat) => (([(0, 1), (1, 1)] : List (Nat × Nat)).toArray)[i]?) [V.int IntKind.i64 0, V.int IntKind.i64 0] ps := by kernel_rfl
theorem bz_125 (ps : List (Nat × V)) : builtV Try.prog 125 ps = fillV (fun (i : Nat) => (([(0, 1), (1, 1)] : List (Nat × Nat)).toArray)[i]?) [V.int IntKind.i64 0, V.int IntKind.i64 0] ps := by kernel_rfl
noncomputable def ze_113 : List V := ((zeroV Try.prog 113).getD undefV).cellsV
theorem zel_113 : ze_113.length = 128 := by kernel_rfl
theorem mk_45 (l c : Int) (h : Heap) : makeSliceV Try.prog 45 l c h = if 0 ≤ l ∧ l ≤ c ∧ 1 * c.toNat ≤ 281474976710656 ∧ c ≤ 9223372036854775807 ∧ (Nat.beq (c.toNat * 1) 0 = true ∨ Nat.blt 0 ([V.int IntKind.u8 0] : List V).length = true) then some (.slice (some (h.n, 0)) l.toNat c.toNat true, h.push (.cells (Blk.rep (c.toNat * 1) [V.int IntKind.u8 0]) 5)) else none := by kernel_rfl
theorem mk_55 (l c : Int) (h : Heap) : makeSliceV Try.prog 55 l c h = if 0 ≤ l ∧ l ≤ c ∧ 8 * c.toNat ≤ 281474976710656 ∧ c ≤ 9223372036854775807 ∧ (Nat.beq (c.toNat * 1) 0 = true ∨ Nat.blt 0 ([V.int IntKind.u64 0] : List V).length = true) then some (.slice (some (h.n, 0)) l.toNat c.toNat true, h.push (.cells (Blk.rep (c.toNat * 1) [V.int IntKind.u64 0]) 123)) else none := by kernel_rfl
theorem mk_64 (l c : Int) (h : Heap) : makeSliceV Try.prog 64 l c h = if 0 ≤ l ∧ l ≤ c ∧ 1 * c.toNat ≤ 281474976710656 ∧ c ≤ 9223372036854775807 ∧ (Nat.beq (c.toNat * 1) 0 = true ∨ Nat.blt 0 ([V.bool false] : List V).length = true) then some (.slice (some (h.n, 0)) l.toNat c.toNat true, h.push (.cells (Blk.rep (c.toNat * 1) [V.bool false]) 4)) else none := by kernel_rfl
theorem mk_81 (l c : Int) (h : Heap) : makeSliceV Try.prog 81 l c h = if 0 ≤ l ∧ l ≤ c ∧ 24 * c.toNat ≤ 281474976710656 ∧ c ≤ 9223372036854775807 ∧ (Nat.beq (c.toNat * 1) 0 = true ∨ Nat.blt 0 ([V.slice none 0 0 true] : List V).length = true) then some (.slice (some (h.n, 0)) l.toNat c.toNat true, h.push (.cells (Blk.rep (c.toNat * 1) [V.slice none 0 0 true]) 80)) else none := by kernel_rfl
theorem mk_85 (l c : Int) (h : Heap) : makeSliceV Try.prog 85 l c h = if 0 ≤ l ∧ l ≤ c ∧ 128 * c.toNat ≤ 281474976710656 ∧ c ≤ 9223372036854775807 ∧ (Nat.beq (c.toNat * 128) 0 = true ∨ Nat.blt 0 (ze_113 : List V).length = true) then some (.slice (some (h.n, 0)) l.toNat c.toNat true, h.push (.cells (Blk.rep (c.toNat * 128) ze_113) 113)) else none := by kernel_rfl
theorem bs_22_1 (ps : List (Nat × V)) : builtSliceV Try.prog 22 1 ps = match fillV (fun i => some (i * 1, 1)) [V.int IntKind.i64 0] ps with | some r => some (3, r) | none => none := by kernel_rfl
theorem bs_22_2 (ps : List (Nat × V)) : builtSliceV Try.prog 22 2 ps = match fillV (fun i => some (i * 1, 1)) [V.int IntKind.i64 0, V.int IntKind.i64 0] ps with | some r => some (3, r) | none => none := by kernel_rfl
theorem bs_22_3 (ps : List (Nat × V)) : builtSliceV Try.prog 22 3 ps = match fillV (fun i => some (i * 1, 1)) [V.int IntKind.i64 0, V.int IntKind.i64 0, V.int IntKind.i64 0] ps with | some r => some (3, r) | none => none := by kernel_rfl
theorem bs_22_4 (ps : List (Nat × V)) : builtSliceV Try.prog 22 4 ps = match fillV (fun i => some (i * 1, 1)) [V.int IntKind.i64 0, V.int IntKind.i64 0, V.int IntKind.i64 0, V.int IntKind.i64 0] ps with | some r => some (3, r) | none => none := by kernel_rfl
theorem bs_22_8 (ps : List (Nat × V)) : builtSliceV Try.prog 22 8 ps = match fillV (fun i => some (i * 1, 1)) [V.int IntKind.i64 0, V.int IntKind.i64 0, V.int IntKind.i64 0, V.int IntKind.i64 0, V.int IntKind.i64 0, V.int IntKind.i64 0, V.int IntKind.i64 0, V.int IntKind.i64 0] ps with | some r => some (3, r) | none => none := by kernel_rfl
theorem bs_22_9 (ps : List (Nat × V)) : builtSliceV Try.prog 22 9 ps = match fillV (fun i => some (i * 1, 1)) [V.int IntKind.i64 0, V.int IntKind.i64 0, V.int IntKind.i64 0, V.int IntKind.i64 0, V.int IntKind.i64 0, V.int IntKind.i64 0, V.int IntKind.i64 0, V.int IntKind.i64 0, V.int IntKind.i64 0] ps with | some r => some (3, r) | none => none := by kernel_rfl
theorem bs_45_1 (ps : List (Nat × V)) : builtSliceV Try.prog 45 1 ps = match fillV (fun i => some (i * 1, 1)) [V.int IntKind.u8 0] ps with | some r => some (5, r) | none => none := by kernel_rfl
theorem bs_46_1 (ps : List (Nat × V)) : builtSliceV Try.prog 46 1 ps = match fillV (fun i => some (i * 2, 2)) [V.int IntKind.i64 0, V.int IntKind.i64 0] ps with | some r => some (125, r) | none => none := by kernel_rfl
theorem bs_66_1 (ps : List (Nat × V)) : builtSliceV Try.prog 66 1 ps = match fillV (fun i => some (i * 1, 1)) [V.slice none 0 0 true] ps with | some r => some (64, r) | none => none := by kernel_rfl
theorem bs_80_1 (ps : List (Nat × V)) : builtSliceV Try.prog 80 1 ps = match fillV (fun i => some (i * 1, 1)) [V.slice none 0 0 true] ps with | some r => some (45, r) | none => none := by kernel_rfl
theorem bs_121_1 (ps : List (Nat × V)) : builtSliceV Try.prog 121 1 ps = match fillV (fun i => some (i * 2, 2)) [V.int IntKind.i64 0, V.int IntKind.i64 0] ps with | some r => some (118, r) | none => none := by kernel_rfl
theorem ca_6 : callable Try.prog 6 = true := by kernel_rfl
theorem ca_7 : callable Try.prog 7 = true := by kernel_rfl
theorem ca_8 : callable Try.prog 8 = true := by kernel_rfl
theorem ca_9 : callable Try.prog 9 = true := by kernel_rfl
theorem ca_10 : callable Try.prog 10 = true := by kernel_rfl
theorem ca_11 : callable Try.prog 11 = true := by kernel_rfl
theorem ca_12 : callable Try.prog 12 = true := by kernel_rfl
theorem ca_13 : callable Try.prog 13 = true := by kernel_rfl
theorem ca_14 : callable Try.prog 14 = true := by kernel_rfl
theorem ca_15 : callable Try.prog 15 = true := by kernel_rfl
theorem ca_18 : callable Try.prog 18 = true := by kernel_rfl
theorem ca_19 : callable Try.prog 19 = true := by kernel_rfl
theorem ca_20 : callable Try.prog 20 = true := by kernel_rfl
theorem ca_22 : callable Try.prog 22 = true := by kernel_rfl
theorem ca_23 : callable Try.prog 23 = true := by kernel_rfl
theorem ca_24 : callable Try.prog 24 = true := by kernel_rfl
theorem ca_25 : callable Try.prog 25 = true := by kernel_rfl
theorem ca_26 : callable Try.prog 26 = true := by kernel_rfl
theorem ca_28 : callable Try.prog 28 = true := by kernel_rfl
theorem ca_29 : callable Try.prog 29 = true := by kernel_rfl
theorem ca_30 : callable Try.prog 30 = true := by kernel_rfl
theorem ca_31 : callable Try.prog 31 = true := by kernel_rfl
theorem ca_32 : callable Try.prog 32 = true := by kernel_rfl
theorem ca_33 : callable Try.prog 33 = true := by kernel_rfl
theorem ca_34 : callable Try.prog 34 = true := by kernel_rfl
theorem ca_35 : callable Try.prog 35 = true := by kernel_rfl
theorem ca_36 : callable Try.prog 36 = true := by kernel_rfl
theorem ca_37 : callable Try.prog 37 = true := by kernel_rfl
theorem ca_38 : callable Try.prog 38 = true := by kernel_rfl
theorem ca_39 : callable Try.prog 39 = true := by kernel_rfl
theorem ca_40 : callable Try.prog 40 = true := by kernel_rfl
theorem ca_41 : callable Try.prog 41 = true := by kernel_rfl
theorem ca_42 : callable Try.prog 42 = true := by kernel_rfl
theorem ca_43 : callable Try.prog 43 = true := by kernel_rfl
theorem ca_44 : callable Try.prog 44 = true := by kernel_rfl
theorem ca_45 : callable Try.prog 45 = true := by kernel_rfl
theorem ca_46 : callable Try.prog 46 = true := by kernel_rfl
theorem ca_47 : callable Try.prog 47 = true := by kernel_rfl
theorem ca_48 : callable Try.prog 48 = true := by kernel_rfl
theorem ca_49 : callable Try.prog 49 = true := by kernel_rfl
theorem ca_50 : callable Try.prog 50 = true := by kernel_rfl
theorem ca_51 : callable Try.prog 51 = true := by kernel_rfl
theorem ca_52 : callable Try.prog 52 = true := by kernel_rfl
theorem ca_53 : callable Try.prog 53 = true := by kernel_rfl
theorem ca_54 : callable Try.prog 54 = true := by kernel_rfl
theorem ca_55 : callable Try.prog 55 = true := by kernel_rfl
theorem ca_56 : callable Try.prog 56 = true := by kernel_rfl
theorem ca_57 : callable Try.prog 57 = true := by kernel_rfl
theorem ca_58 : callable Try.prog 58 = true := by kernel_rfl
theorem ca_59 : callable Try.prog 59 = true := by kernel_rfl
theorem ca_60 : callable Try.prog 60 = true := by kernel_rfl
theorem ca_61 : callable Try.prog 61 = true := by kernel_rfl
theorem ca_62 : callable Try.prog 62 = true := by kernel_rfl
theorem ca_63 : callable Try.prog 63 = true := by kernel_rfl
theorem ca_64 : callable Try.prog 64 = true := by kernel_rfl
theorem ca_65 : callable Try.prog 65 = true := by kernel_rfl
theorem ca_66 : callable Try.prog 66 = true := by kernel_rfl
theorem ca_67 : callable Try.prog 67 = true := by kernel_rfl
theorem ca_68 : callable Try.prog 68 = true := by kernel_rfl
theorem ca_69 : callable Try.prog 69 = true := by kernel_rfl
theorem ca_70 : callable Try.prog 70 = true := by kernel_rfl
theorem ca_71 : callable Try.prog 71 = true := by kernel_rfl
theorem ca_72 : callable Try.prog 72 = true := by kernel_rfl
theorem ca_73 : callable Try.prog 73 = true := by kernel_rfl
theorem ca_74 : callable Try.prog 74 = true := by kernel_rfl
theorem ca_75 : callable Try.prog 75 = true := by kernel_rfl
theorem ca_76 : callable Try.prog 76 = true := by kernel_rfl
attribute [go_sem] ag_2 ag_3 ag_4 ag_5 ag_22 ag_25 ag_26 ag_27 ag_29 ag_45 ag_46 ag_48 ag_55 ag_57 ag_60 ag_64 ag_65 ag_66 ag_80 ag_81 ag_85 ag_86 ag_113 ag_118 ag_121 ag_123 ag_125 fo_29_0 fo_29_1 fo_29_2 fo_48_0 fo_48_1 fo_48_2 fo_48_3 fo_48_4 fo_48_5 fo_57_0 fo_57_1 fo_57_2 fo_60_0 fo_60_1 fo_60_2 fo_68_0 fo_68_1 fo_68_2 fo_83_0 fo_83_1 fo_83_2 fo_88_0 fo_88_1 fo_88_2 fo_118_0 fo_118_1 fo_125_0 fo_125_1 is_22 is_36 is_45 is_46 is_55 ia_58 is_64 is_66 is_80 is_81 is_85 is_121 sz_2 sz_3 sz_4 sz_5 sz_22 sz_25 sz_26 sz_27 sz_29 sz_45 sz_46 sz_48 sz_55 sz_57 sz_60 sz_64 sz_65 sz_66 sz_68 sz_80 sz_81 sz_83 sz_85 sz_86 sz_88 sz_113 sz_118 sz_121 sz_123 sz_125 zv_3 zv_4 zv_26 zv_29 zv_48 zv_57 zv_68 zv_83 zv_88 zv_118 zv_121 zv_125 bz_29 bz_57 bz_60 bz_68 bz_83 bz_88 bz_118 bz_125 zel_113 mk_45 mk_55 mk_64 mk_81 mk_85 bs_22_1 bs_22_2 bs_22_3 bs_22_4 bs_22_8 bs_22_9 bs_45_1 bs_46_1 bs_66_1 bs_80_1 bs_121_1 Try.underlying3 Try.underlying4 Try.underlying5 Try.underlying9 Try.underlying22 Try.underlying25 Try.underlying26 Try.underlying27 Try.underlying29 Try.underlying36 Try.underlying37 Try.underlying45 Try.underlying46 Try.underlying48 Try.underlying55 Try.underlying64 Try.underlying65 Try.underlying66 Try.underlying76 Try.underlying80 Try.underlying81 Try.underlying85 Try.underlying86 Try.underlying98 Try.underlying113 Try.underlying118 Try.underlying121 Try.underlying123 Try.underlying125 ca_6 ca_7 ca_8 ca_9 ca_10 ca_11 ca_12 ca_13 ca_14 ca_15 ca_18 ca_19 ca_20 ca_22 ca_23 ca_24 ca_25 ca_26 ca_28 ca_29 ca_30 ca_31 ca_32 ca_33 ca_34 ca_35 ca_36 ca_37 ca_38 ca_39 ca_40 ca_41 ca_42 ca_43 ca_44 ca_45 ca_46 ca_47 ca_48 ca_49 ca_50 ca_51 ca_52 ca_53 ca_54 ca_55 ca_56 ca_57 ca_58 ca_59 ca_60 ca_61 ca_62 ca_63 ca_64 ca_65 ca_66 ca_67 ca_68 ca_69 ca_70 ca_71 ca_72 ca_73 ca_74 ca_75 ca_76
end Go.Proofs.Ythdkhbhicimpdaa
