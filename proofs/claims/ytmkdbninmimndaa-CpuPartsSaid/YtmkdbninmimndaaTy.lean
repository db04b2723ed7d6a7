/- Sizes and offsets of the types of this seat. -/
import Derived.Test.YtmkdbninmimndaaProg
import Derived.Test.YtmkdbninmimndaaV4
import Derived.KernelRfl
set_option linter.unusedVariables false
set_option maxRecDepth 100000
namespace Go.Proofs.Ytmkdbninmimndaa
open Go Go.Vm
theorem hm : Try.prog.follows .mixedOrders = true := by kernel_rfl
theorem ag_3 : aggV Try.prog 3 = some false := by kernel_rfl
theorem ag_4 : aggV Try.prog 4 = some false := by kernel_rfl
theorem ag_5 : aggV Try.prog 5 = some false := by kernel_rfl
theorem ag_22 : aggV Try.prog 22 = some false := by kernel_rfl
theorem ag_23 : aggV Try.prog 23 = some false := by kernel_rfl
theorem ag_24 : aggV Try.prog 24 = some false := by kernel_rfl
theorem ag_25 : aggV Try.prog 25 = some false := by kernel_rfl
theorem ag_28 : aggV Try.prog 28 = some true := by kernel_rfl
theorem ag_30 : aggV Try.prog 30 = some true := by kernel_rfl
theorem ag_36 : aggV Try.prog 36 = some false := by kernel_rfl
theorem ag_38 : aggV Try.prog 38 = some true := by kernel_rfl
theorem ag_48 : aggV Try.prog 48 = some false := by kernel_rfl
theorem ag_50 : aggV Try.prog 50 = some true := by kernel_rfl
theorem ag_69 : aggV Try.prog 69 = some false := by kernel_rfl
theorem ag_86 : aggV Try.prog 86 = some false := by kernel_rfl
theorem ag_111 : aggV Try.prog 111 = some true := by kernel_rfl
theorem ag_118 : aggV Try.prog 118 = some true := by kernel_rfl
theorem fo_28_0 : fieldOff Try.prog 28 0 = some 0 := by kernel_rfl
theorem fo_28_1 : fieldOff Try.prog 28 1 = some 16 := by kernel_rfl
theorem fo_30_0 : fieldOff Try.prog 30 0 = some 0 := by kernel_rfl
theorem fo_30_1 : fieldOff Try.prog 30 1 = some 1 := by kernel_rfl
theorem fo_30_2 : fieldOff Try.prog 30 2 = some 2 := by kernel_rfl
theorem fo_30_3 : fieldOff Try.prog 30 3 = some 3 := by kernel_rfl
theorem fo_30_4 : fieldOff Try.prog 30 4 = some 20 := by kernel_rfl
theorem fo_38_0 : fieldOff Try.prog 38 0 = some 0 := by kernel_rfl
theorem fo_38_1 : fieldOff Try.prog 38 1 = some 1 := by kernel_rfl
theorem fo_38_2 : fieldOff Try.prog 38 2 = some 2 := by kernel_rfl
theorem fo_38_4 : fieldOff Try.prog 38 4 = some 4 := by kernel_rfl
theorem fo_46_0 : fieldOff Try.prog 46 0 = some 0 := by kernel_rfl
theorem fo_46_1 : fieldOff Try.prog 46 1 = some 1 := by kernel_rfl
theorem fo_50_0 : fieldOff Try.prog 50 0 = some 0 := by kernel_rfl
theorem fo_50_1 : fieldOff Try.prog 50 1 = some 1 := by kernel_rfl
theorem fo_50_2 : fieldOff Try.prog 50 2 = some 2 := by kernel_rfl
theorem fo_50_3 : fieldOff Try.prog 50 3 = some 3 := by kernel_rfl
theorem fo_50_4 : fieldOff Try.prog 50 4 = some 4 := by kernel_rfl
theorem fo_72_0 : fieldOff Try.prog 72 0 = some 0 := by kernel_rfl
theorem fo_72_1 : fieldOff Try.prog 72 1 = some 17 := by kernel_rfl
theorem fo_72_2 : fieldOff Try.prog 72 2 = some 18 := by kernel_rfl
theorem fo_80_0 : fieldOff Try.prog 80 0 = some 0 := by kernel_rfl
theorem fo_80_1 : fieldOff Try.prog 80 1 = some 1 := by kernel_rfl
theorem fo_111_0 : fieldOff Try.prog 111 0 = some 0 := by kernel_rfl
theorem fo_111_1 : fieldOff Try.prog 111 1 = some 1 := by kernel_rfl
theorem fo_111_2 : fieldOff Try.prog 111 2 = some 2 := by kernel_rfl
theorem fo_111_3 : fieldOff Try.prog 111 3 = some 3 := by kernel_rfl
theorem is_22 : idxSlice Try.prog 22 = some 5 := by kernel_rfl
theorem is_23 : idxSlice Try.prog 23 = some 1 := by kernel_rfl
theorem is_24 : idxSlice Try.prog 24 = some 1 := by kernel_rfl
theorem ia_26 : idxArray Try.prog 26 = some (16, 1) := by kernel_rfl
theorem sz_3 : szV Try.prog 3 = some 1 := by kernel_rfl
theorem sz_4 : szV Try.prog 4 = some 1 := by kernel_rfl
theorem sz_5 : szV Try.prog 5 = some 1 := by kernel_rfl
theorem sz_22 : szV Try.prog 22 = some 1 := by kernel_rfl
theorem sz_23 : szV Try.prog 23 = some 1 := by kernel_rfl
theorem sz_24 : szV Try.prog 24 = some 1 := by kernel_rfl
theorem sz_25 : szV Try.prog 25 = some 1 := by kernel_rfl
theorem sz_28 : szV Try.prog 28 = some 17 := by kernel_rfl
theorem sz_30 : szV Try.prog 30 = some 21 := by kernel_rfl
theorem sz_36 : szV Try.prog 36 = some 1 := by kernel_rfl
theorem sz_38 : szV Try.prog 38 = some 5 := by kernel_rfl
theorem sz_46 : szV Try.prog 46 = some 2 := by kernel_rfl
theorem sz_48 : szV Try.prog 48 = some 1 := by kernel_rfl
theorem sz_50 : szV Try.prog 50 = some 5 := by kernel_rfl
theorem sz_69 : szV Try.prog 69 = some 1 := by kernel_rfl
theorem sz_72 : szV Try.prog 72 = some 23 := by kernel_rfl
theorem sz_80 : szV Try.prog 80 = some 2 := by kernel_rfl
theorem sz_86 : szV Try.prog 86 = some 1 := by kernel_rfl
theorem sz_111 : szV Try.prog 111 = some 4 := by kernel_rfl
theorem sz_118 : szV Try.prog 118 = some 29 := by kernel_rfl
theorem zv_26 : zeroV Try.prog 26 = some (V.agg [V.int IntKind.u32 0, V.int IntKind.u32 0, V.int IntKind.u32 0, V.int IntKind.u32 0, V.int IntKind.u32 0, V.int IntKind.u32 0, V.int IntKind.u32 0, V.int IntKind.u32 0, V.int IntKind.u32 0, V.int IntKind.u32 0, V.int IntKind.u32 0, V.int IntKind.u32 0, V.int IntKind.u32 0, V.int IntKind.u32 0, V.int IntKind.u32 0, V.int IntKind.u32 0]) := by kernel_rfl
theorem zv_28 : zeroV Try.prog 28 = some (V.agg [V.int IntKind.u32 0, V.int IntKind.u32 0, V.int IntKind.u32 0, V.int IntKind.u32 0, V.int IntKind.u32 0, V.int IntKind.u32 0, V.int IntKind.u32 0, V.int IntKind.u32 0, V.int IntKind.u32 0, V.int IntKind.u32 0, V.int IntKind.u32 0, V.int IntKind.u32 0, V.int IntKind.u32 0, V.int IntKind.u32 0, V.int IntKind.u32 0, V.int IntKind.u32 0, V.int IntKind.u32 0]) := by kernel_rfl
theorem zv_30 : zeroV Try.prog 30 = some (V.agg [V.slice none 0 0 true, V.slice none 0 0 true, V.slice none 0 0 true, V.int IntKind.u32 0, V.int IntKind.u32 0, V.int IntKind.u32 0, V.int IntKind.u32 0, V.int IntKind.u32 0, V.int IntKind.u32 0, V.int IntKind.u32 0, V.int IntKind.u32 0, V.int IntKind.u32 0, V.int IntKind.u32 0, V.int IntKind.u32 0, V.int IntKind.u32 0, V.int IntKind.u32 0, V.int IntKind.u32 0, V.int IntKind.u32 0, V.int IntKind.u32 0, V.int IntKind.u32 0, V.int IntKind.i64 0]) := by kernel_rfl
theorem zv_38 : zeroV Try.prog 38 = some (V.agg [V.int IntKind.i64 0, V.int IntKind.i64 0, V.int IntKind.u32 0, V.int IntKind.i64 0, V.int IntKind.i64 0]) := by kernel_rfl
theorem zv_46 : zeroV Try.prog 46 = some (V.agg [V.slice none 0 0 true, V.slice none 0 0 true]) := by kernel_rfl
theorem zv_50 : zeroV Try.prog 50 = some (V.agg [V.int IntKind.i64 0, V.int IntKind.i64 0, V.int IntKind.i64 0, V.int IntKind.i64 0, V.int IntKind.i64 0]) := by kernel_rfl
theorem zv_72 : zeroV Try.prog 72 = some (V.agg [V.int IntKind.u32 0, V.int IntKind.u32 0, V.int IntKind.u32 0, V.int IntKind.u32 0, V.int IntKind.u32 0, V.int IntKind.u32 0, V.int IntKind.u32 0, V.int IntKind.u32 0, V.int IntKind.u32 0, V.int IntKind.u32 0, V.int IntKind.u32 0, V.int IntKind.u32 0, V.int IntKind.u32 0, V.int IntKind.u32 0, V.int IntKind.u32 0, V.int IntKind.u32 0, V.int IntKind.u32 0, V.nilIface, V.int IntKind.i64 0, V.int IntKind.i64 0, V.int IntKind.u32 0, V.int IntKind.i64 0, V.int IntKind.i64 0]) := by kernel_rfl
theorem zv_80 : zeroV Try.prog 80 = some (V.agg [V.slice none 0 0 true, V.slice none 0 0 true]) := by kernel_rfl
theorem zv_111 : zeroV Try.prog 111 = some (V.agg [V.bool false, V.bool false, V.bool false, V.bool false]) := by kernel_rfl
theorem bz_28 (ps : List (Nat × V)) : builtV Try.prog 28 ps = fillV (fun (i : Nat) => (([(0, 16), (16, 1)] : List (Nat × Nat)).toArray)[i]?) [V.int IntKind.u32 0, V.int IntKind.u32 0, V.int IntKind.u32 0, V.int IntKind.u32 0, V.int IntKind.u32 0, V.int IntKind.u32 0, V.int IntKind.u32 0, V.int IntKind.u32 0, V.int IntKind.u32 0, V.int IntKind.u32 0, V.int IntKind.u32 0, V.int IntKind.u32 0, V.int IntKind.u32 0, V.int IntKind.u32 0, V.int IntKind.u32 0, V.int IntKind.u32 0, V.int IntKind.u32 0] ps := by kernel_rfl
theorem bz_30 (ps : List (Nat × V)) : builtV Try.prog 30 ps = fillV (fun (i : Nat) => (([(0, 1), (1, 1), (2, 1), (3, 17), (20, 1)] : List (Nat × Nat)).toArray)[i]?) [V.slice none 0 0 true, V.slice none 0 0 true, V.slice none 0 0 true, V.int IntKind.u32 0, V.int IntKind.u32 0, V.int IntKind.u32 0, V.int IntKind.u32 0, V.int IntKind.u32 0, V.int IntKind.u32 0, V.int IntKind.u32 0, V.int IntKind.u32 0, V.int IntKind.u32 0, V.int IntKind.u32 0, V.int IntKind.u32 0, V.int IntKind.u32 0, V.int IntKind.u32 0, V.int IntKind.u32 0, V.int IntKind.u32 0, V.int IntKind.u32 0, V.int IntKind.u32 0, V.int IntKind.i64 0] ps := by kernel_rfl
theorem bz_38 (ps : List (Nat × V)) : builtV Try.prog 38 ps = fillV (fun (i : Nat) => (([(0, 1), (1, 1), (2, 1), (3, 1), (4, 1)] : List (Nat × Nat)).toArray)[i]?) [V.int IntKind.i64 0, V.int IntKind.i64 0, V.int IntKind.u32 0, V.int IntKind.i64 0, V.int IntKind.i64 0] ps := by kernel_rfl
theorem bz_46 (ps : List (Nat × V)) : builtV Try.prog 46 ps = fillV (fun (i : Nat) => (([(0, 1), (1, 1)] : List (Nat × Nat)).toArray)[i]?) [V.slice none 0 0 true, V.slice none 0 0 true] ps := by kernel_rfl
theorem bz_50 (ps : List (Nat × V)) : builtV Try.prog 50 ps = fillV (fun (i : Nat) => (([(0, 1), (1, 1), (2, 1), (3, 1), (4, 1)] : List (Nat × Nat)).toArray)[i]?) [V.int IntKind.i64 0, V.int IntKind.i64 0, V.int IntKind.i64 0, V.int IntKind.i64 0, V.int IntKind.i64 0] ps := by kernel_rfl
theorem bz_72 (ps : List (Nat × V)) : builtV Try.prog 72 ps = fillV (fun (i : Nat) => (([(0, 17), (17, 1), (18, 5)] : List (Nat × Nat)).toArray)[i]?) [V.int IntKind.u32 0, V.int IntKind.u32 0, V.int IntKind.u32 0, V.int IntKind.u32 0, V.int IntKind.u32 0, V.int IntKind.u32 0, V.int IntKind.u32 0, V.int IntKind.u32 0, V.int IntKind.u32 0, V.int IntKind.u32 0, V.int IntKind.u32 0, V.int IntKind.u32 0, V.int IntKind.u32 0, V.int IntKind.u32 0, V.int IntKind.u32 0, V.int IntKind.u32 0, V.int IntKind.u32 0, V.nilIface, V.int IntKind.i64 0, V.int IntKind.i64 0, V.int IntKind.u32 0, V.int IntKind.i64 0, V.int IntKind.i64 0] ps := by kernel_rfl
theorem bz_80 (ps : List (Nat × V)) : builtV Try.prog 80 ps = fillV (fun (i : Nat) => (([(0, 1), (1, 1)] : List (Nat × Nat)).toArray)[i]?) [V.slice none 0 0 true, V.slice none 0 0 true] ps := by kernel_rfl
theorem bz_111 (ps : List (Nat × V)) : builtV Try.prog 111 ps = fillV (fun (i : Nat) => (([(0, 1), (1, 1), (2, 1), (3, 1)] : List (Nat × Nat)).toArray)[i]?) [V.bool false, V.bool false, V.bool false, V.bool false] ps := by kernel_rfl
theorem mk_23 (l c : Int) (h : Heap) : makeSliceV Try.prog 23 l c h = if 0 ≤ l ∧ l ≤ c ∧ 1 * c.toNat ≤ 281474976710656 ∧ c ≤ 9223372036854775807 ∧ (Nat.beq (c.toNat * 1) 0 = true ∨ Nat.blt 0 ([V.int IntKind.u8 0] : List V).length = true) then some (.slice (some (h.n, 0)) l.toNat c.toNat true, h.push (.cells (Blk.rep (c.toNat * 1) [V.int IntKind.u8 0]) 5)) else none := by kernel_rfl
theorem bs_22_1 (ps : List (Nat × V)) : builtSliceV Try.prog 22 1 ps = match fillV (fun i => some (i * 5, 5)) [V.int IntKind.i64 0, V.int IntKind.i64 0, V.int IntKind.i64 0, V.int IntKind.i64 0, V.int IntKind.i64 0] ps with | some r => some (50, r) | none => none := by kernel_rfl
theorem bs_22_2 (ps : List (Nat × V)) : builtSliceV Try.prog 22 2 ps = match fillV (fun i => some (i * 5, 5)) [V.int IntKind.i64 0, V.int IntKind.i64 0, V.int IntKind.i64 0, V.int IntKind.i64 0, V.int IntKind.i64 0, V.int IntKind.i64 0, V.int IntKind.i64 0, V.int IntKind.i64 0, V.int IntKind.i64 0, V.int IntKind.i64 0] ps with | some r => some (50, r) | none => none := by kernel_rfl
theorem bs_22_4 (ps : List (Nat × V)) : builtSliceV Try.prog 22 4 ps = match fillV (fun i => some (i * 5, 5)) [V.int IntKind.i64 0, V.int IntKind.i64 0, V.int IntKind.i64 0, V.int IntKind.i64 0, V.int IntKind.i64 0, V.int IntKind.i64 0, V.int IntKind.i64 0, V.int IntKind.i64 0, V.int IntKind.i64 0, V.int IntKind.i64 0, V.int IntKind.i64 0, V.int IntKind.i64 0, V.int IntKind.i64 0, V.int IntKind.i64 0, V.int IntKind.i64 0, V.int IntKind.i64 0, V.int IntKind.i64 0, V.int IntKind.i64 0, V.int IntKind.i64 0, V.int IntKind.i64 0] ps with | some r => some (50, r) | none => none := by kernel_rfl
theorem bs_23_0 (ps : List (Nat × V)) : builtSliceV Try.prog 23 0 ps = match fillV (fun i => some (i * 1, 1)) [] ps with | some r => some (5, r) | none => none := by kernel_rfl
theorem bs_23_1 (ps : List (Nat × V)) : builtSliceV Try.prog 23 1 ps = match fillV (fun i => some (i * 1, 1)) [V.int IntKind.u8 0] ps with | some r => some (5, r) | none => none := by kernel_rfl
theorem bs_23_3 (ps : List (Nat × V)) : builtSliceV Try.prog 23 3 ps = match fillV (fun i => some (i * 1, 1)) [V.int IntKind.u8 0, V.int IntKind.u8 0, V.int IntKind.u8 0] ps with | some r => some (5, r) | none => none := by kernel_rfl
theorem bs_23_4 (ps : List (Nat × V)) : builtSliceV Try.prog 23 4 ps = match fillV (fun i => some (i * 1, 1)) [V.int IntKind.u8 0, V.int IntKind.u8 0, V.int IntKind.u8 0, V.int IntKind.u8 0] ps with | some r => some (5, r) | none => none := by kernel_rfl
theorem bs_24_0 (ps : List (Nat × V)) : builtSliceV Try.prog 24 0 ps = match fillV (fun i => some (i * 1, 1)) [] ps with | some r => some (3, r) | none => none := by kernel_rfl
theorem bs_24_1 (ps : List (Nat × V)) : builtSliceV Try.prog 24 1 ps = match fillV (fun i => some (i * 1, 1)) [V.int IntKind.i64 0] ps with | some r => some (3, r) | none => none := by kernel_rfl
theorem ca_3 : callable Try.prog 3 = true := by kernel_rfl
theorem ca_9 : callable Try.prog 9 = true := by kernel_rfl
theorem ca_10 : callable Try.prog 10 = true := by kernel_rfl
theorem ca_11 : callable Try.prog 11 = true := by kernel_rfl
theorem ca_12 : callable Try.prog 12 = true := by kernel_rfl
theorem ca_13 : callable Try.prog 13 = true := by kernel_rfl
theorem ca_14 : callable Try.prog 14 = true := by kernel_rfl
theorem ca_15 : callable Try.prog 15 = true := by kernel_rfl
theorem ca_16 : callable Try.prog 16 = true := by kernel_rfl
theorem ca_17 : callable Try.prog 17 = true := by kernel_rfl
theorem ca_18 : callable Try.prog 18 = true := by kernel_rfl
theorem ca_19 : callable Try.prog 19 = true := by kernel_rfl
theorem ca_20 : callable Try.prog 20 = true := by kernel_rfl
theorem ca_21 : callable Try.prog 21 = true := by kernel_rfl
theorem ca_22 : callable Try.prog 22 = true := by kernel_rfl
theorem ca_23 : callable Try.prog 23 = true := by kernel_rfl
theorem ca_24 : callable Try.prog 24 = true := by kernel_rfl
theorem ca_26 : callable Try.prog 26 = true := by kernel_rfl
theorem ca_27 : callable Try.prog 27 = true := by kernel_rfl
theorem ca_28 : callable Try.prog 28 = true := by kernel_rfl
theorem ca_29 : callable Try.prog 29 = true := by kernel_rfl
theorem ca_30 : callable Try.prog 30 = true := by kernel_rfl
theorem ca_31 : callable Try.prog 31 = true := by kernel_rfl
theorem ca_32 : callable Try.prog 32 = true := by kernel_rfl
theorem ca_33 : callable Try.prog 33 = true := by kernel_rfl
theorem ca_34 : callable Try.prog 34 = true := by kernel_rfl
theorem ca_35 : callable Try.prog 35 = true := by kernel_rfl
theorem ca_36 : callable Try.prog 36 = true := by kernel_rfl
theorem ca_37 : callable Try.prog 37 = true := by kernel_rfl
theorem ca_38 : callable Try.prog 38 = true := by kernel_rfl
theorem ca_39 : callable Try.prog 39 = true := by kernel_rfl
theorem ca_40 : callable Try.prog 40 = true := by kernel_rfl
theorem ca_41 : callable Try.prog 41 = true := by kernel_rfl
theorem ca_42 : callable Try.prog 42 = true := by kernel_rfl
theorem ca_43 : callable Try.prog 43 = true := by kernel_rfl
theorem ca_44 : callable Try.prog 44 = true := by kernel_rfl
theorem ca_45 : callable Try.prog 45 = true := by kernel_rfl
theorem ca_46 : callable Try.prog 46 = true := by kernel_rfl
theorem ca_47 : callable Try.prog 47 = true := by kernel_rfl
theorem ca_48 : callable Try.prog 48 = true := by kernel_rfl
theorem ca_49 : callable Try.prog 49 = true := by kernel_rfl
theorem ca_50 : callable Try.prog 50 = true := by kernel_rfl
theorem ca_51 : callable Try.prog 51 = true := by kernel_rfl
theorem ca_52 : callable Try.prog 52 = true := by kernel_rfl
theorem ca_53 : callable Try.prog 53 = true := by kernel_rfl
theorem ca_54 : callable Try.prog 54 = true := by kernel_rfl
theorem ca_55 : callable Try.prog 55 = true := by kernel_rfl
theorem ca_56 : callable Try.prog 56 = true := by kernel_rfl
theorem ca_57 : callable Try.prog 57 = true := by kernel_rfl
theorem ca_58 : callable Try.prog 58 = true := by kernel_rfl
theorem ca_59 : callable Try.prog 59 = true := by kernel_rfl
theorem ca_60 : callable Try.prog 60 = true := by kernel_rfl
theorem ca_61 : callable Try.prog 61 = true := by kernel_rfl
theorem ca_62 : callable Try.prog 62 = true := by kernel_rfl
theorem ca_63 : callable Try.prog 63 = true := by kernel_rfl
theorem ca_64 : callable Try.prog 64 = true := by kernel_rfl
theorem ca_65 : callable Try.prog 65 = true := by kernel_rfl
attribute [go_sem] ag_3 ag_4 ag_5 ag_22 ag_23 ag_24 ag_25 ag_28 ag_30 ag_36 ag_38 ag_48 ag_50 ag_69 ag_86 ag_111 ag_118 fo_28_0 fo_28_1 fo_30_0 fo_30_1 fo_30_2 fo_30_3 fo_30_4 fo_38_0 fo_38_1 fo_38_2 fo_38_4 fo_46_0 fo_46_1 fo_50_0 fo_50_1 fo_50_2 fo_50_3 fo_50_4 fo_72_0 fo_72_1 fo_72_2 fo_80_0 fo_80_1 fo_111_0 fo_111_1 fo_111_2 fo_111_3 is_22 is_23 is_24 ia_26 sz_3 sz_4 sz_5 sz_22 sz_23 sz_24 sz_25 sz_28 sz_30 sz_36 sz_38 sz_46 sz_48 sz_50 sz_69 sz_72 sz_80 sz_86 sz_111 sz_118 zv_26 zv_28 zv_30 zv_38 zv_46 zv_50 zv_72 zv_80 zv_111 bz_28 bz_30 bz_38 bz_46 bz_50 bz_72 bz_80 bz_111 mk_23 bs_22_1 bs_22_2 bs_22_4 bs_23_0 bs_23_1 bs_23_3 bs_23_4 bs_24_0 bs_24_1 Try.underlying3 Try.underlying4 Try.underlying5 Try.underlying9 Try.underlying21 Try.underlying22 Try.underlying23 Try.underlying24 Try.underlying25 Try.underlying28 Try.underlying30 Try.underlying32 Try.underlying33 Try.underlying36 Try.underlying38 Try.underlying39 Try.underlying48 Try.underlying50 Try.underlying69 Try.underlying70 Try.underlying73 Try.underlying85 Try.underlying86 Try.underlying105 Try.underlying109 Try.underlying113 Try.underlying118 ca_3 ca_9 ca_10 ca_11 ca_12 ca_13 ca_14 ca_15 ca_16 ca_17 ca_18 ca_19 ca_20 ca_21 ca_22 ca_23 ca_24 ca_26 ca_27 ca_28 ca_29 ca_30 ca_31 ca_32 ca_33 ca_34 ca_35 ca_36 ca_37 ca_38 ca_39 ca_40 ca_41 ca_42 ca_43 ca_44 ca_45 ca_46 ca_47 ca_48 ca_49 ca_50 ca_51 ca_52 ca_53 ca_54 ca_55 ca_56 ca_57 ca_58 ca_59 ca_60 ca_61 ca_62 ca_63 ca_64 ca_65
end Go.Proofs.Ytmkdbninmimndaa
