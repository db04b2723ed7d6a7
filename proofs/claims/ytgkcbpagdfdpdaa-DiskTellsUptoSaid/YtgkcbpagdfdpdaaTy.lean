/- Sizes and offsets of the types of this seat. -/
import Derived.Test.YtgkcbpagdfdpdaaProg
import Derived.Test.YtgkcbpagdfdpdaaV4
import Derived.KernelRfl
set_option linter.unusedVariables false
set_option linter.unusedSimpArgs false
set_option linter.unusedSimpArgs false
set_option maxRecDepth 100000
namespace Go.Proofs.Ytgkcbpagdfdpdaa
open Go Go.Vm
theorem hm : Try.prog.follows .mixedOrders = true := by kernel_rfl
theorem ag_2 : aggV Try.prog 2 = some false := by kernel_rfl
theorem ag_3 : aggV Try.prog 3 = some false := by kernel_rfl
theorem ag_4 : aggV Try.prog 4 = some false := by kernel_rfl
theorem ag_5 : aggV Try.prog 5 = some false := by kernel_rfl
theorem ag_9 : aggV Try.prog 9 = some false := by kernel_rfl
theorem ag_23 : aggV Try.prog 23 = some false := by kernel_rfl
theorem ag_26 : aggV Try.prog 26 = some false := by kernel_rfl
theorem ag_31 : aggV Try.prog 31 = some false := by kernel_rfl
theorem ag_33 : aggV Try.prog 33 = some false := by kernel_rfl
theorem ag_36 : aggV Try.prog 36 = some true := by kernel_rfl
theorem ag_45 : aggV Try.prog 45 = some false := by kernel_rfl
theorem ag_51 : aggV Try.prog 51 = some false := by kernel_rfl
theorem ag_52 : aggV Try.prog 52 = some false := by kernel_rfl
theorem ag_63 : aggV Try.prog 63 = some true := by kernel_rfl
theorem ag_67 : aggV Try.prog 67 = some true := by kernel_rfl
theorem ag_75 : aggV Try.prog 75 = some false := by kernel_rfl
theorem ag_76 : aggV Try.prog 76 = some false := by kernel_rfl
theorem ag_80 : aggV Try.prog 80 = some false := by kernel_rfl
theorem ag_121 : aggV Try.prog 121 = some false := by kernel_rfl
theorem fo_36_0 : fieldOff Try.prog 36 0 = some 0 := by kernel_rfl
theorem fo_36_1 : fieldOff Try.prog 36 1 = some 1 := by kernel_rfl
theorem fo_36_2 : fieldOff Try.prog 36 2 = some 2 := by kernel_rfl
theorem fo_36_3 : fieldOff Try.prog 36 3 = some 3 := by kernel_rfl
theorem fo_36_4 : fieldOff Try.prog 36 4 = some 4 := by kernel_rfl
theorem fo_54_0 : fieldOff Try.prog 54 0 = some 0 := by kernel_rfl
theorem fo_54_1 : fieldOff Try.prog 54 1 = some 1 := by kernel_rfl
theorem fo_54_2 : fieldOff Try.prog 54 2 = some 2 := by kernel_rfl
theorem fo_63_0 : fieldOff Try.prog 63 0 = some 0 := by kernel_rfl
theorem fo_63_1 : fieldOff Try.prog 63 1 = some 1 := by kernel_rfl
theorem fo_78_0 : fieldOff Try.prog 78 0 = some 0 := by kernel_rfl
theorem fo_78_1 : fieldOff Try.prog 78 1 = some 1 := by kernel_rfl
theorem fo_78_2 : fieldOff Try.prog 78 2 = some 2 := by kernel_rfl
theorem is_22 : idxSlice Try.prog 22 = some 5 := by kernel_rfl
theorem is_23 : idxSlice Try.prog 23 = some 2 := by kernel_rfl
theorem is_31 : idxSlice Try.prog 31 = some 1 := by kernel_rfl
theorem ia_32 : idxArray Try.prog 32 = some (16, 1) := by kernel_rfl
theorem is_33 : idxSlice Try.prog 33 = some 1 := by kernel_rfl
theorem is_51 : idxSlice Try.prog 51 = some 128 := by kernel_rfl
theorem ia_59 : idxArray Try.prog 59 = some (2, 1) := by kernel_rfl
theorem is_75 : idxSlice Try.prog 75 = some 1 := by kernel_rfl
theorem is_76 : idxSlice Try.prog 76 = some 1 := by kernel_rfl
theorem is_80 : idxSlice Try.prog 80 = some 1 := by kernel_rfl
theorem sz_2 : szV Try.prog 2 = some 1 := by kernel_rfl
theorem sz_3 : szV Try.prog 3 = some 1 := by kernel_rfl
theorem sz_4 : szV Try.prog 4 = some 1 := by kernel_rfl
theorem sz_5 : szV Try.prog 5 = some 1 := by kernel_rfl
theorem sz_9 : szV Try.prog 9 = some 1 := by kernel_rfl
theorem sz_23 : szV Try.prog 23 = some 1 := by kernel_rfl
theorem sz_26 : szV Try.prog 26 = some 1 := by kernel_rfl
theorem sz_31 : szV Try.prog 31 = some 1 := by kernel_rfl
theorem sz_32 : szV Try.prog 32 = some 16 := by kernel_rfl
theorem sz_33 : szV Try.prog 33 = some 1 := by kernel_rfl
theorem sz_36 : szV Try.prog 36 = some 5 := by kernel_rfl
theorem sz_45 : szV Try.prog 45 = some 1 := by kernel_rfl
theorem sz_51 : szV Try.prog 51 = some 1 := by kernel_rfl
theorem sz_52 : szV Try.prog 52 = some 1 := by kernel_rfl
theorem sz_54 : szV Try.prog 54 = some 3 := by kernel_rfl
theorem sz_59 : szV Try.prog 59 = some 2 := by kernel_rfl
theorem sz_63 : szV Try.prog 63 = some 2 := by kernel_rfl
theorem sz_67 : szV Try.prog 67 = some 128 := by kernel_rfl
theorem sz_75 : szV Try.prog 75 = some 1 := by kernel_rfl
theorem sz_76 : szV Try.prog 76 = some 1 := by kernel_rfl
theorem sz_78 : szV Try.prog 78 = some 3 := by kernel_rfl
theorem sz_80 : szV Try.prog 80 = some 1 := by kernel_rfl
theorem sz_121 : szV Try.prog 121 = some 1 := by kernel_rfl
theorem zv_3 : zeroV Try.prog 3 = some (V.int IntKind.i64 0) := by kernel_rfl
theorem zv_4 : zeroV Try.prog 4 = some (V.bool false) := by kernel_rfl
theorem zv_26 : zeroV Try.prog 26 = some (V.ptr none) := by kernel_rfl
theorem zv_32 : zeroV Try.prog 32 = some (V.agg [V.slice none 0 0 true, V.slice none 0 0 true, V.slice none 0 0 true, V.slice none 0 0 true, V.slice none 0 0 true, V.slice none 0 0 true, V.slice none 0 0 true, V.slice none 0 0 true, V.slice none 0 0 true, V.slice none 0 0 true, V.slice none 0 0 true, V.slice none 0 0 true, V.slice none 0 0 true, V.slice none 0 0 true, V.slice none 0 0 true, V.slice none 0 0 true]) := by kernel_rfl
theorem zv_36 : zeroV Try.prog 36 = some (V.agg [V.int IntKind.i64 0, V.int IntKind.i64 0, V.int IntKind.i64 0, V.slice none 0 0 true, V.slice none 0 0 true]) := by kernel_rfl
theorem zv_54 : zeroV Try.prog 54 = some (V.agg [V.slice none 0 0 true, V.map none, V.int IntKind.i64 0]) := by kernel_rfl
theorem zv_63 : zeroV Try.prog 63 = some (V.agg [V.int IntKind.i64 0, V.int IntKind.i64 0]) := by kernel_rfl
theorem zv_78 : zeroV Try.prog 78 = some (V.agg [V.slice none 0 0 true, V.slice none 0 0 true, V.int IntKind.i64 0]) := by kernel_rfl
theorem zv_80 : zeroV Try.prog 80 = some (V.slice none 0 0 true) := by kernel_rfl
theorem zv_121 : zeroV Try.prog 121 = some (V.int IntKind.u64 0) := by kernel_rfl
theorem bz_54 (ps : List (Nat × V)) : builtV Try.prog 54 ps = fillV (fun (i : Nat) => (([(0, 1), (1, 1), (2, 1)] : List (Nat × Nat)).toArray)[i]?) [V.slice none 0 0 true, V.map none, V.int IntKind.i64 0] ps := by kernel_rfl
theorem bz_63 (ps : List (Nat × V)) : builtV Try.prog 63 ps = fillV (fun (i : Nat) => (([(0, 1), (1, 1)] : List (Nat × Nat)).toArray)[i]?) [V.int IntKind.i64 0, V.int IntKind.i64 0] ps := by kernel_rfl
theorem bz_78 (ps : List (Nat × V)) : builtV Try.prog 78 ps = fillV (fun (i : Nat) => (([(0, 1), (1, 1), (2, 1)] : List (Nat × Nat)).toArray)[i]?) [V.slice none 0 0 true, V.slice none 0 0 true, V.int IntKind.i64 0] ps := by kernel_rfl
noncomputable def ze_67 : List V := ((zeroV Try.prog 67).getD undefV).cellsV
theorem zel_67 : ze_67.length = 128 := by kernel_rfl
theorem mk_33 (l c : Int) (h : Heap) : makeSliceV Try.prog 33 l c h = if 0 ≤ l ∧ l ≤ c ∧ 1 * c.toNat ≤ 281474976710656 ∧ c ≤ 9223372036854775807 ∧ (Nat.beq (c.toNat * 1) 0 = true ∨ Nat.blt 0 ([V.int IntKind.u8 0] : List V).length = true) then some (.slice (some (h.n, 0)) l.toNat c.toNat true, h.push (.cells (Blk.rep (c.toNat * 1) [V.int IntKind.u8 0]) 5)) else none := by kernel_rfl
theorem mk_51 (l c : Int) (h : Heap) : makeSliceV Try.prog 51 l c h = if 0 ≤ l ∧ l ≤ c ∧ 128 * c.toNat ≤ 281474976710656 ∧ c ≤ 9223372036854775807 ∧ (Nat.beq (c.toNat * 128) 0 = true ∨ Nat.blt 0 (ze_67 : List V).length = true) then some (.slice (some (h.n, 0)) l.toNat c.toNat true, h.push (.cells (Blk.rep (c.toNat * 128) ze_67) 67)) else none := by kernel_rfl
theorem mk_76 (l c : Int) (h : Heap) : makeSliceV Try.prog 76 l c h = if 0 ≤ l ∧ l ≤ c ∧ 24 * c.toNat ≤ 281474976710656 ∧ c ≤ 9223372036854775807 ∧ (Nat.beq (c.toNat * 1) 0 = true ∨ Nat.blt 0 ([V.slice none 0 0 true] : List V).length = true) then some (.slice (some (h.n, 0)) l.toNat c.toNat true, h.push (.cells (Blk.rep (c.toNat * 1) [V.slice none 0 0 true]) 75)) else none := by kernel_rfl
theorem bs_23_1 (ps : List (Nat × V)) : builtSliceV Try.prog 23 1 ps = match fillV (fun i => some (i * 2, 2)) [V.int IntKind.i64 0, V.int IntKind.i64 0] ps with | some r => some (63, r) | none => none := by kernel_rfl
theorem bs_23_2 (ps : List (Nat × V)) : builtSliceV Try.prog 23 2 ps = match fillV (fun i => some (i * 2, 2)) [V.int IntKind.i64 0, V.int IntKind.i64 0, V.int IntKind.i64 0, V.int IntKind.i64 0] ps with | some r => some (63, r) | none => none := by kernel_rfl
theorem bs_31_1 (ps : List (Nat × V)) : builtSliceV Try.prog 31 1 ps = match fillV (fun i => some (i * 1, 1)) [V.str { data := { toList := [] } }] ps with | some r => some (9, r) | none => none := by kernel_rfl
theorem bs_33_1 (ps : List (Nat × V)) : builtSliceV Try.prog 33 1 ps = match fillV (fun i => some (i * 1, 1)) [V.int IntKind.u8 0] ps with | some r => some (5, r) | none => none := by kernel_rfl
theorem bs_75_1 (ps : List (Nat × V)) : builtSliceV Try.prog 75 1 ps = match fillV (fun i => some (i * 1, 1)) [V.slice none 0 0 true] ps with | some r => some (33, r) | none => none := by kernel_rfl
theorem bs_80_1 (ps : List (Nat × V)) : builtSliceV Try.prog 80 1 ps = match fillV (fun i => some (i * 1, 1)) [V.int IntKind.i64 0] ps with | some r => some (3, r) | none => none := by kernel_rfl
theorem ca_2 : callable Try.prog 2 = true := by kernel_rfl
theorem ca_3 : callable Try.prog 3 = true := by kernel_rfl
theorem ca_4 : callable Try.prog 4 = true := by kernel_rfl
theorem ca_5 : callable Try.prog 5 = true := by kernel_rfl
theorem ca_6 : callable Try.prog 6 = true := by kernel_rfl
theorem ca_7 : callable Try.prog 7 = true := by kernel_rfl
theorem ca_8 : callable Try.prog 8 = true := by kernel_rfl
theorem ca_9 : callable Try.prog 9 = true := by kernel_rfl
theorem ca_10 : callable Try.prog 10 = true := by kernel_rfl
theorem ca_11 : callable Try.prog 11 = true := by kernel_rfl
theorem ca_12 : callable Try.prog 12 = true := by kernel_rfl
theorem ca_13 : callable Try.prog 13 = true := by kernel_rfl
theorem ca_14 : callable Try.prog 14 = true := by kernel_rfl
theorem ca_15 : callable Try.prog 15 = true := by kernel_rfl
theorem ca_16 : callable Try.prog 16 = true := by kernel_rfl
theorem ca_17 : callable Try.prog 17 = true := by kernel_rfl
theorem ca_18 : callable Try.prog 18 = true := by kernel_rfl
theorem ca_19 : callable Try.prog 19 = true := by kernel_rfl
theorem ca_20 : callable Try.prog 20 = true := by kernel_rfl
theorem ca_21 : callable Try.prog 21 = true := by kernel_rfl
theorem ca_22 : callable Try.prog 22 = true := by kernel_rfl
theorem ca_23 : callable Try.prog 23 = true := by kernel_rfl
theorem ca_24 : callable Try.prog 24 = true := by kernel_rfl
theorem ca_25 : callable Try.prog 25 = true := by kernel_rfl
theorem ca_26 : callable Try.prog 26 = true := by kernel_rfl
theorem ca_27 : callable Try.prog 27 = true := by kernel_rfl
theorem ca_28 : callable Try.prog 28 = true := by kernel_rfl
theorem ca_29 : callable Try.prog 29 = true := by kernel_rfl
theorem ca_30 : callable Try.prog 30 = true := by kernel_rfl
theorem ca_31 : callable Try.prog 31 = true := by kernel_rfl
theorem ca_32 : callable Try.prog 32 = true := by kernel_rfl
theorem ca_33 : callable Try.prog 33 = true := by kernel_rfl
theorem ca_34 : callable Try.prog 34 = true := by kernel_rfl
theorem ca_35 : callable Try.prog 35 = true := by kernel_rfl
theorem ca_36 : callable Try.prog 36 = true := by kernel_rfl
theorem ca_37 : callable Try.prog 37 = true := by kernel_rfl
theorem ca_38 : callable Try.prog 38 = true := by kernel_rfl
theorem ca_39 : callable Try.prog 39 = true := by kernel_rfl
theorem ca_40 : callable Try.prog 40 = true := by kernel_rfl
theorem ca_41 : callable Try.prog 41 = true := by kernel_rfl
theorem ca_42 : callable Try.prog 42 = true := by kernel_rfl
theorem ca_43 : callable Try.prog 43 = true := by kernel_rfl
theorem ca_44 : callable Try.prog 44 = true := by kernel_rfl
theorem ca_45 : callable Try.prog 45 = true := by kernel_rfl
theorem ca_46 : callable Try.prog 46 = true := by kernel_rfl
theorem ca_47 : callable Try.prog 47 = true := by kernel_rfl
theorem ca_48 : callable Try.prog 48 = true := by kernel_rfl
theorem ca_49 : callable Try.prog 49 = true := by kernel_rfl
theorem ca_50 : callable Try.prog 50 = true := by kernel_rfl
theorem ca_51 : callable Try.prog 51 = true := by kernel_rfl
theorem ca_52 : callable Try.prog 52 = true := by kernel_rfl
theorem ca_53 : callable Try.prog 53 = true := by kernel_rfl
theorem ca_54 : callable Try.prog 54 = true := by kernel_rfl
theorem ca_55 : callable Try.prog 55 = true := by kernel_rfl
theorem ca_56 : callable Try.prog 56 = true := by kernel_rfl
theorem ca_57 : callable Try.prog 57 = true := by kernel_rfl
theorem ca_58 : callable Try.prog 58 = true := by kernel_rfl
theorem ca_59 : callable Try.prog 59 = true := by kernel_rfl
theorem ca_60 : callable Try.prog 60 = true := by kernel_rfl
theorem ca_61 : callable Try.prog 61 = true := by kernel_rfl
theorem ca_62 : callable Try.prog 62 = true := by kernel_rfl
theorem ca_63 : callable Try.prog 63 = true := by kernel_rfl
theorem ca_64 : callable Try.prog 64 = true := by kernel_rfl
theorem ca_65 : callable Try.prog 65 = true := by kernel_rfl
theorem ca_66 : callable Try.prog 66 = true := by kernel_rfl
theorem ca_67 : callable Try.prog 67 = true := by kernel_rfl
theorem ca_68 : callable Try.prog 68 = true := by kernel_rfl
theorem ca_69 : callable Try.prog 69 = true := by kernel_rfl
theorem ca_70 : callable Try.prog 70 = true := by kernel_rfl
theorem ca_71 : callable Try.prog 71 = true := by kernel_rfl
theorem ca_72 : callable Try.prog 72 = true := by kernel_rfl
theorem ca_73 : callable Try.prog 73 = true := by kernel_rfl
theorem ca_74 : callable Try.prog 74 = true := by kernel_rfl
theorem ca_75 : callable Try.prog 75 = true := by kernel_rfl
theorem ca_76 : callable Try.prog 76 = true := by kernel_rfl
attribute [go_sem] ag_2 ag_3 ag_4 ag_5 ag_9 ag_23 ag_26 ag_31 ag_33 ag_36 ag_45 ag_51 ag_52 ag_63 ag_67 ag_75 ag_76 ag_80 ag_121 fo_36_0 fo_36_1 fo_36_2 fo_36_3 fo_36_4 fo_54_0 fo_54_1 fo_54_2 fo_63_0 fo_63_1 fo_78_0 fo_78_1 fo_78_2 is_22 is_23 is_31 ia_32 is_33 is_51 ia_59 is_75 is_76 is_80 sz_2 sz_3 sz_4 sz_5 sz_9 sz_23 sz_26 sz_31 sz_32 sz_33 sz_36 sz_45 sz_51 sz_52 sz_54 sz_59 sz_63 sz_67 sz_75 sz_76 sz_78 sz_80 sz_121 zv_3 zv_4 zv_26 zv_32 zv_36 zv_54 zv_63 zv_78 zv_80 zv_121 bz_54 bz_63 bz_78 zel_67 mk_33 mk_51 mk_76 bs_23_1 bs_23_2 bs_31_1 bs_33_1 bs_75_1 bs_80_1 Try.underlying2 Try.underlying3 Try.underlying4 Try.underlying5 Try.underlying9 Try.underlying22 Try.underlying23 Try.underlying26 Try.underlying27 Try.underlying31 Try.underlying33 Try.underlying36 Try.underlying45 Try.underlying51 Try.underlying52 Try.underlying67 Try.underlying70 Try.underlying71 Try.underlying75 Try.underlying76 Try.underlying80 Try.underlying84 Try.underlying97 Try.underlying108 Try.underlying110 Try.underlying118 Try.underlying120 Try.underlying121 Try.underlying125 ca_2 ca_3 ca_4 ca_5 ca_6 ca_7 ca_8 ca_9 ca_10 ca_11 ca_12 ca_13 ca_14 ca_15 ca_16 ca_17 ca_18 ca_19 ca_20 ca_21 ca_22 ca_23 ca_24 ca_25 ca_26 ca_27 ca_28 ca_29 ca_30 ca_31 ca_32 ca_33 ca_34 ca_35 ca_36 ca_37 ca_38 ca_39 ca_40 ca_41 ca_42 ca_43 ca_44 ca_45 ca_46 ca_47 ca_48 ca_49 ca_50 ca_51 ca_52 ca_53 ca_54 ca_55 ca_56 ca_57 ca_58 ca_59 ca_60 ca_61 ca_62 ca_63 ca_64 ca_65 ca_66 ca_67 ca_68 ca_69 ca_70 ca_71 ca_72 ca_73 ca_74 ca_75 ca_76
end Go.Proofs.Ytgkcbpagdfdpdaa
