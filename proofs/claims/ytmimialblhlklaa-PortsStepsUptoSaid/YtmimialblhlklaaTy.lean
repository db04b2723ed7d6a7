/- Sizes and offsets of the types of this seat. -/
import Derived.Test.YtmimialblhlklaaProg
import Derived.Test.YtmimialblhlklaaV4
import Derived.KernelRfl
set_option linter.unusedVariables false
set_option maxRecDepth 100000
namespace Go.Proofs.Ytmimialblhlklaa
open Go Go.Vm
theorem hm : Try.prog.follows .mixedOrders = true := by kernel_rfl
theorem ag_2 : aggV Try.prog 2 = some false := by kernel_rfl
theorem ag_3 : aggV Try.prog 3 = some false := by kernel_rfl
theorem ag_4 : aggV Try.prog 4 = some false := by kernel_rfl
theorem ag_5 : aggV Try.prog 5 = some false := by kernel_rfl
theorem ag_9 : aggV Try.prog 9 = some false := by kernel_rfl
theorem ag_22 : aggV Try.prog 22 = some false := by kernel_rfl
theorem ag_23 : aggV Try.prog 23 = some false := by kernel_rfl
theorem ag_26 : aggV Try.prog 26 = some false := by kernel_rfl
theorem ag_30 : aggV Try.prog 30 = some false := by kernel_rfl
theorem ag_36 : aggV Try.prog 36 = some false := by kernel_rfl
theorem ag_37 : aggV Try.prog 37 = some false := by kernel_rfl
theorem ag_41 : aggV Try.prog 41 = some true := by kernel_rfl
theorem ag_49 : aggV Try.prog 49 = some true := by kernel_rfl
theorem ag_66 : aggV Try.prog 66 = some false := by kernel_rfl
theorem ag_75 : aggV Try.prog 75 = some true := by kernel_rfl
theorem ag_76 : aggV Try.prog 76 = some false := by kernel_rfl
theorem ag_79 : aggV Try.prog 79 = some true := by kernel_rfl
theorem ag_82 : aggV Try.prog 82 = some true := by kernel_rfl
theorem ag_104 : aggV Try.prog 104 = some false := by kernel_rfl
theorem ag_107 : aggV Try.prog 107 = some false := by kernel_rfl
theorem ag_109 : aggV Try.prog 109 = some true := by kernel_rfl
theorem ag_124 : aggV Try.prog 124 = some false := by kernel_rfl
theorem ag_149 : aggV Try.prog 149 = some false := by kernel_rfl
theorem fo_41_1 : fieldOff Try.prog 41 1 = some 1 := by kernel_rfl
theorem fo_49_0 : fieldOff Try.prog 49 0 = some 0 := by kernel_rfl
theorem fo_49_1 : fieldOff Try.prog 49 1 = some 1 := by kernel_rfl
theorem fo_49_2 : fieldOff Try.prog 49 2 = some 2 := by kernel_rfl
theorem fo_49_3 : fieldOff Try.prog 49 3 = some 3 := by kernel_rfl
theorem fo_49_4 : fieldOff Try.prog 49 4 = some 4 := by kernel_rfl
theorem fo_68_0 : fieldOff Try.prog 68 0 = some 0 := by kernel_rfl
theorem fo_68_1 : fieldOff Try.prog 68 1 = some 1 := by kernel_rfl
theorem fo_75_0 : fieldOff Try.prog 75 0 = some 0 := by kernel_rfl
theorem fo_75_1 : fieldOff Try.prog 75 1 = some 1 := by kernel_rfl
theorem fo_79_0 : fieldOff Try.prog 79 0 = some 0 := by kernel_rfl
theorem fo_79_1 : fieldOff Try.prog 79 1 = some 1 := by kernel_rfl
theorem fo_79_2 : fieldOff Try.prog 79 2 = some 2 := by kernel_rfl
theorem fo_82_0 : fieldOff Try.prog 82 0 = some 0 := by kernel_rfl
theorem fo_82_1 : fieldOff Try.prog 82 1 = some 1 := by kernel_rfl
theorem fo_82_2 : fieldOff Try.prog 82 2 = some 9 := by kernel_rfl
theorem fo_82_3 : fieldOff Try.prog 82 3 = some 10 := by kernel_rfl
theorem fo_82_4 : fieldOff Try.prog 82 4 = some 11 := by kernel_rfl
theorem fo_106_0 : fieldOff Try.prog 106 0 = some 0 := by kernel_rfl
theorem fo_109_0 : fieldOff Try.prog 109 0 = some 0 := by kernel_rfl
theorem fo_109_1 : fieldOff Try.prog 109 1 = some 1 := by kernel_rfl
theorem fo_109_2 : fieldOff Try.prog 109 2 = some 2 := by kernel_rfl
theorem fo_109_3 : fieldOff Try.prog 109 3 = some 3 := by kernel_rfl
theorem is_22 : idxSlice Try.prog 22 = some 3 := by kernel_rfl
theorem is_23 : idxSlice Try.prog 23 = some 1 := by kernel_rfl
theorem is_24 : idxSlice Try.prog 24 = some 1 := by kernel_rfl
theorem is_30 : idxSlice Try.prog 30 = some 1 := by kernel_rfl
theorem is_35 : idxSlice Try.prog 35 = some 1 := by kernel_rfl
theorem is_36 : idxSlice Try.prog 36 = some 1 := by kernel_rfl
theorem is_37 : idxSlice Try.prog 37 = some 2 := by kernel_rfl
theorem is_46 : idxSlice Try.prog 46 = some 5 := by kernel_rfl
theorem ia_80 : idxArray Try.prog 80 = some (8, 1) := by kernel_rfl
theorem is_104 : idxSlice Try.prog 104 = some 1 := by kernel_rfl
theorem is_107 : idxSlice Try.prog 107 = some 4 := by kernel_rfl
theorem sz_2 : szV Try.prog 2 = some 1 := by kernel_rfl
theorem sz_3 : szV Try.prog 3 = some 1 := by kernel_rfl
theorem sz_4 : szV Try.prog 4 = some 1 := by kernel_rfl
theorem sz_5 : szV Try.prog 5 = some 1 := by kernel_rfl
theorem sz_9 : szV Try.prog 9 = some 1 := by kernel_rfl
theorem sz_22 : szV Try.prog 22 = some 1 := by kernel_rfl
theorem sz_23 : szV Try.prog 23 = some 1 := by kernel_rfl
theorem sz_26 : szV Try.prog 26 = some 1 := by kernel_rfl
theorem sz_30 : szV Try.prog 30 = some 1 := by kernel_rfl
theorem sz_36 : szV Try.prog 36 = some 1 := by kernel_rfl
theorem sz_37 : szV Try.prog 37 = some 1 := by kernel_rfl
theorem sz_41 : szV Try.prog 41 = some 2 := by kernel_rfl
theorem sz_49 : szV Try.prog 49 = some 5 := by kernel_rfl
theorem sz_66 : szV Try.prog 66 = some 1 := by kernel_rfl
theorem sz_68 : szV Try.prog 68 = some 2 := by kernel_rfl
theorem sz_75 : szV Try.prog 75 = some 2 := by kernel_rfl
theorem sz_76 : szV Try.prog 76 = some 1 := by kernel_rfl
theorem sz_79 : szV Try.prog 79 = some 3 := by kernel_rfl
theorem sz_82 : szV Try.prog 82 = some 12 := by kernel_rfl
theorem sz_104 : szV Try.prog 104 = some 1 := by kernel_rfl
theorem sz_106 : szV Try.prog 106 = some 1 := by kernel_rfl
theorem sz_107 : szV Try.prog 107 = some 1 := by kernel_rfl
theorem sz_109 : szV Try.prog 109 = some 4 := by kernel_rfl
theorem sz_124 : szV Try.prog 124 = some 1 := by kernel_rfl
theorem sz_149 : szV Try.prog 149 = some 1 := by kernel_rfl
theorem zv_3 : zeroV Try.prog 3 = some (V.int IntKind.i64 0) := by kernel_rfl
theorem zv_4 : zeroV Try.prog 4 = some (V.bool false) := by kernel_rfl
theorem zv_23 : zeroV Try.prog 23 = some (V.slice none 0 0 true) := by kernel_rfl
theorem zv_30 : zeroV Try.prog 30 = some (V.slice none 0 0 true) := by kernel_rfl
theorem zv_37 : zeroV Try.prog 37 = some (V.slice none 0 0 true) := by kernel_rfl
theorem zv_41 : zeroV Try.prog 41 = some (V.agg [V.int IntKind.i64 0, V.bool false]) := by kernel_rfl
theorem zv_49 : zeroV Try.prog 49 = some (V.agg [V.int IntKind.i64 0, V.int IntKind.i64 0, V.int IntKind.i64 0, V.slice none 0 0 true, V.slice none 0 0 true]) := by kernel_rfl
theorem zv_68 : zeroV Try.prog 68 = some (V.agg [V.slice none 0 0 true, V.map none]) := by kernel_rfl
theorem zv_75 : zeroV Try.prog 75 = some (V.agg [V.int IntKind.i64 0, V.int IntKind.i64 0]) := by kernel_rfl
theorem zv_76 : zeroV Try.prog 76 = some (V.ptr none) := by kernel_rfl
theorem zv_79 : zeroV Try.prog 79 = some (V.agg [V.int IntKind.i64 0, V.int IntKind.i64 0, V.int IntKind.i64 0]) := by kernel_rfl
theorem zv_82 : zeroV Try.prog 82 = some (V.agg [V.slice none 0 0 true, V.slice none 0 0 true, V.slice none 0 0 true, V.slice none 0 0 true, V.slice none 0 0 true, V.slice none 0 0 true, V.slice none 0 0 true, V.slice none 0 0 true, V.slice none 0 0 true, V.int IntKind.i64 0, V.int IntKind.i64 0, V.int IntKind.i64 0]) := by kernel_rfl
theorem zv_106 : zeroV Try.prog 106 = some (V.agg [V.slice none 0 0 true]) := by kernel_rfl
theorem zv_109 : zeroV Try.prog 109 = some (V.agg [V.bool false, V.slice none 0 0 true, V.slice none 0 0 true, V.int IntKind.i64 0]) := by kernel_rfl
theorem zv_149 : zeroV Try.prog 149 = some (V.int IntKind.u64 0) := by kernel_rfl
theorem bz_41 (ps : List (Nat × V)) : builtV Try.prog 41 ps = fillV (fun (i : Nat) => (([(0, 1), (1, 1)] : List (Nat × Nat)).toArray)[i]?) [V.int IntKind.i64 0, V.bool false] ps := by kernel_rfl
theorem bz_68 (ps : List (Nat × V)) : builtV Try.prog 68 ps = fillV (fun (i : Nat) => (([(0, 1), (1, 1)] : List (Nat × Nat)).toArray)[i]?) [V.slice none 0 0 true, V.map none] ps := by kernel_rfl
theorem bz_75 (ps : List (Nat × V)) : builtV Try.prog 75 ps = fillV (fun (i : Nat) => (([(0, 1), (1, 1)] : List (Nat × Nat)).toArray)[i]?) [V.int IntKind.i64 0, V.int IntKind.i64 0] ps := by kernel_rfl
theorem bz_79 (ps : List (Nat × V)) : builtV Try.prog 79 ps = fillV (fun (i : Nat) => (([(0, 1), (1, 1), (2, 1)] : List (Nat × Nat)).toArray)[i]?) [V.int IntKind.i64 0, V.int IntKind.i64 0, V.int IntKind.i64 0] ps := by kernel_rfl
theorem bz_82 (ps : List (Nat × V)) : builtV Try.prog 82 ps = fillV (fun (i : Nat) => (([(0, 1), (1, 8), (9, 1), (10, 1), (11, 1)] : List (Nat × Nat)).toArray)[i]?) [V.slice none 0 0 true, V.slice none 0 0 true, V.slice none 0 0 true, V.slice none 0 0 true, V.slice none 0 0 true, V.slice none 0 0 true, V.slice none 0 0 true, V.slice none 0 0 true, V.slice none 0 0 true, V.int IntKind.i64 0, V.int IntKind.i64 0, V.int IntKind.i64 0] ps := by kernel_rfl
theorem bz_106 (ps : List (Nat × V)) : builtV Try.prog 106 ps = fillV (fun (i : Nat) => (([(0, 1)] : List (Nat × Nat)).toArray)[i]?) [V.slice none 0 0 true] ps := by kernel_rfl
theorem bz_109 (ps : List (Nat × V)) : builtV Try.prog 109 ps = fillV (fun (i : Nat) => (([(0, 1), (1, 1), (2, 1), (3, 1)] : List (Nat × Nat)).toArray)[i]?) [V.bool false, V.slice none 0 0 true, V.slice none 0 0 true, V.int IntKind.i64 0] ps := by kernel_rfl
theorem mk_22 (l c : Int) (h : Heap) : makeSliceV Try.prog 22 l c h = if 0 ≤ l ∧ l ≤ c ∧ 24 * c.toNat ≤ 281474976710656 ∧ c ≤ 9223372036854775807 ∧ (Nat.beq (c.toNat * 3) 0 = true ∨ Nat.blt 0 ([V.int IntKind.i64 0, V.int IntKind.i64 0, V.int IntKind.i64 0] : List V).length = true) then some (.slice (some (h.n, 0)) l.toNat c.toNat true, h.push (.cells (Blk.rep (c.toNat * 3) [V.int IntKind.i64 0, V.int IntKind.i64 0, V.int IntKind.i64 0]) 79)) else none := by kernel_rfl
theorem mk_107 (l c : Int) (h : Heap) : makeSliceV Try.prog 107 l c h = if 0 ≤ l ∧ l ≤ c ∧ 64 * c.toNat ≤ 281474976710656 ∧ c ≤ 9223372036854775807 ∧ (Nat.beq (c.toNat * 4) 0 = true ∨ Nat.blt 0 ([V.bool false, V.slice none 0 0 true, V.slice none 0 0 true, V.int IntKind.i64 0] : List V).length = true) then some (.slice (some (h.n, 0)) l.toNat c.toNat true, h.push (.cells (Blk.rep (c.toNat * 4) [V.bool false, V.slice none 0 0 true, V.slice none 0 0 true, V.int IntKind.i64 0]) 109)) else none := by kernel_rfl
theorem bs_22_0 (ps : List (Nat × V)) : builtSliceV Try.prog 22 0 ps = match fillV (fun i => some (i * 3, 3)) [] ps with | some r => some (79, r) | none => none := by kernel_rfl
theorem bs_22_1 (ps : List (Nat × V)) : builtSliceV Try.prog 22 1 ps = match fillV (fun i => some (i * 3, 3)) [V.int IntKind.i64 0, V.int IntKind.i64 0, V.int IntKind.i64 0] ps with | some r => some (79, r) | none => none := by kernel_rfl
theorem bs_23_1 (ps : List (Nat × V)) : builtSliceV Try.prog 23 1 ps = match fillV (fun i => some (i * 1, 1)) [V.slice none 0 0 true] ps with | some r => some (36, r) | none => none := by kernel_rfl
theorem bs_30_0 (ps : List (Nat × V)) : builtSliceV Try.prog 30 0 ps = match fillV (fun i => some (i * 1, 1)) [] ps with | some r => some (3, r) | none => none := by kernel_rfl
theorem bs_30_1 (ps : List (Nat × V)) : builtSliceV Try.prog 30 1 ps = match fillV (fun i => some (i * 1, 1)) [V.int IntKind.i64 0] ps with | some r => some (3, r) | none => none := by kernel_rfl
theorem bs_30_2 (ps : List (Nat × V)) : builtSliceV Try.prog 30 2 ps = match fillV (fun i => some (i * 1, 1)) [V.int IntKind.i64 0, V.int IntKind.i64 0] ps with | some r => some (3, r) | none => none := by kernel_rfl
theorem bs_30_3 (ps : List (Nat × V)) : builtSliceV Try.prog 30 3 ps = match fillV (fun i => some (i * 1, 1)) [V.int IntKind.i64 0, V.int IntKind.i64 0, V.int IntKind.i64 0] ps with | some r => some (3, r) | none => none := by kernel_rfl
theorem bs_30_4 (ps : List (Nat × V)) : builtSliceV Try.prog 30 4 ps = match fillV (fun i => some (i * 1, 1)) [V.int IntKind.i64 0, V.int IntKind.i64 0, V.int IntKind.i64 0, V.int IntKind.i64 0] ps with | some r => some (3, r) | none => none := by kernel_rfl
theorem bs_30_8 (ps : List (Nat × V)) : builtSliceV Try.prog 30 8 ps = match fillV (fun i => some (i * 1, 1)) [V.int IntKind.i64 0, V.int IntKind.i64 0, V.int IntKind.i64 0, V.int IntKind.i64 0, V.int IntKind.i64 0, V.int IntKind.i64 0, V.int IntKind.i64 0, V.int IntKind.i64 0] ps with | some r => some (3, r) | none => none := by kernel_rfl
theorem bs_30_9 (ps : List (Nat × V)) : builtSliceV Try.prog 30 9 ps = match fillV (fun i => some (i * 1, 1)) [V.int IntKind.i64 0, V.int IntKind.i64 0, V.int IntKind.i64 0, V.int IntKind.i64 0, V.int IntKind.i64 0, V.int IntKind.i64 0, V.int IntKind.i64 0, V.int IntKind.i64 0, V.int IntKind.i64 0] ps with | some r => some (3, r) | none => none := by kernel_rfl
theorem bs_35_1 (ps : List (Nat × V)) : builtSliceV Try.prog 35 1 ps = match fillV (fun i => some (i * 1, 1)) [V.str { data := { toList := [] } }] ps with | some r => some (9, r) | none => none := by kernel_rfl
theorem bs_36_0 (ps : List (Nat × V)) : builtSliceV Try.prog 36 0 ps = match fillV (fun i => some (i * 1, 1)) [] ps with | some r => some (5, r) | none => none := by kernel_rfl
theorem bs_36_1 (ps : List (Nat × V)) : builtSliceV Try.prog 36 1 ps = match fillV (fun i => some (i * 1, 1)) [V.int IntKind.u8 0] ps with | some r => some (5, r) | none => none := by kernel_rfl
theorem bs_36_2 (ps : List (Nat × V)) : builtSliceV Try.prog 36 2 ps = match fillV (fun i => some (i * 1, 1)) [V.int IntKind.u8 0, V.int IntKind.u8 0] ps with | some r => some (5, r) | none => none := by kernel_rfl
theorem bs_37_1 (ps : List (Nat × V)) : builtSliceV Try.prog 37 1 ps = match fillV (fun i => some (i * 2, 2)) [V.int IntKind.i64 0, V.bool false] ps with | some r => some (41, r) | none => none := by kernel_rfl
theorem bs_37_2 (ps : List (Nat × V)) : builtSliceV Try.prog 37 2 ps = match fillV (fun i => some (i * 2, 2)) [V.int IntKind.i64 0, V.bool false, V.int IntKind.i64 0, V.bool false] ps with | some r => some (41, r) | none => none := by kernel_rfl
theorem bs_104_1 (ps : List (Nat × V)) : builtSliceV Try.prog 104 1 ps = match fillV (fun i => some (i * 1, 1)) [V.slice none 0 0 true] ps with | some r => some (107, r) | none => none := by kernel_rfl
theorem ca_6 : callable Try.prog 6 = true := by kernel_rfl
theorem ca_7 : callable Try.prog 7 = true := by kernel_rfl
theorem ca_8 : callable Try.prog 8 = true := by kernel_rfl
theorem ca_9 : callable Try.prog 9 = true := by kernel_rfl
theorem ca_10 : callable Try.prog 10 = true := by kernel_rfl
theorem ca_11 : callable Try.prog 11 = true := by kernel_rfl
theorem ca_12 : callable Try.prog 12 = true := by kernel_rfl
theorem ca_13 : callable Try.prog 13 = true := by kernel_rfl
theorem ca_14 : callable Try.prog 14 = true := by kernel_rfl
theorem ca_15 : callable Try.prog 15 = true := by kernel_rfl
theorem ca_16 : callable Try.prog 16 = true := by kernel_rfl
theorem ca_17 : callable Try.prog 17 = true := by kernel_rfl
theorem ca_19 : callable Try.prog 19 = true := by kernel_rfl
theorem ca_20 : callable Try.prog 20 = true := by kernel_rfl
theorem ca_21 : callable Try.prog 21 = true := by kernel_rfl
theorem ca_22 : callable Try.prog 22 = true := by kernel_rfl
theorem ca_23 : callable Try.prog 23 = true := by kernel_rfl
theorem ca_24 : callable Try.prog 24 = true := by kernel_rfl
theorem ca_25 : callable Try.prog 25 = true := by kernel_rfl
theorem ca_26 : callable Try.prog 26 = true := by kernel_rfl
theorem ca_28 : callable Try.prog 28 = true := by kernel_rfl
theorem ca_29 : callable Try.prog 29 = true := by kernel_rfl
theorem ca_30 : callable Try.prog 30 = true := by kernel_rfl
theorem ca_31 : callable Try.prog 31 = true := by kernel_rfl
theorem ca_32 : callable Try.prog 32 = true := by kernel_rfl
theorem ca_33 : callable Try.prog 33 = true := by kernel_rfl
theorem ca_34 : callable Try.prog 34 = true := by kernel_rfl
theorem ca_35 : callable Try.prog 35 = true := by kernel_rfl
theorem ca_36 : callable Try.prog 36 = true := by kernel_rfl
theorem ca_37 : callable Try.prog 37 = true := by kernel_rfl
theorem ca_38 : callable Try.prog 38 = true := by kernel_rfl
theorem ca_39 : callable Try.prog 39 = true := by kernel_rfl
theorem ca_40 : callable Try.prog 40 = true := by kernel_rfl
theorem ca_41 : callable Try.prog 41 = true := by kernel_rfl
theorem ca_42 : callable Try.prog 42 = true := by kernel_rfl
theorem ca_43 : callable Try.prog 43 = true := by kernel_rfl
theorem ca_44 : callable Try.prog 44 = true := by kernel_rfl
theorem ca_45 : callable Try.prog 45 = true := by kernel_rfl
theorem ca_46 : callable Try.prog 46 = true := by kernel_rfl
theorem ca_47 : callable Try.prog 47 = true := by kernel_rfl
theorem ca_48 : callable Try.prog 48 = true := by kernel_rfl
theorem ca_49 : callable Try.prog 49 = true := by kernel_rfl
theorem ca_50 : callable Try.prog 50 = true := by kernel_rfl
theorem ca_51 : callable Try.prog 51 = true := by kernel_rfl
theorem ca_52 : callable Try.prog 52 = true := by kernel_rfl
theorem ca_53 : callable Try.prog 53 = true := by kernel_rfl
theorem ca_54 : callable Try.prog 54 = true := by kernel_rfl
theorem ca_55 : callable Try.prog 55 = true := by kernel_rfl
theorem ca_56 : callable Try.prog 56 = true := by kernel_rfl
theorem ca_57 : callable Try.prog 57 = true := by kernel_rfl
theorem ca_58 : callable Try.prog 58 = true := by kernel_rfl
theorem ca_59 : callable Try.prog 59 = true := by kernel_rfl
theorem ca_60 : callable Try.prog 60 = true := by kernel_rfl
theorem ca_61 : callable Try.prog 61 = true := by kernel_rfl
theorem ca_62 : callable Try.prog 62 = true := by kernel_rfl
theorem ca_63 : callable Try.prog 63 = true := by kernel_rfl
theorem ca_64 : callable Try.prog 64 = true := by kernel_rfl
theorem ca_65 : callable Try.prog 65 = true := by kernel_rfl
theorem ca_66 : callable Try.prog 66 = true := by kernel_rfl
theorem ca_67 : callable Try.prog 67 = true := by kernel_rfl
theorem ca_68 : callable Try.prog 68 = true := by kernel_rfl
theorem ca_69 : callable Try.prog 69 = true := by kernel_rfl
theorem ca_70 : callable Try.prog 70 = true := by kernel_rfl
theorem ca_71 : callable Try.prog 71 = true := by kernel_rfl
theorem ca_72 : callable Try.prog 72 = true := by kernel_rfl
theorem ca_73 : callable Try.prog 73 = true := by kernel_rfl
theorem ca_76 : callable Try.prog 76 = true := by kernel_rfl
theorem ca_77 : callable Try.prog 77 = true := by kernel_rfl
theorem ca_78 : callable Try.prog 78 = true := by kernel_rfl
theorem ca_79 : callable Try.prog 79 = true := by kernel_rfl
theorem ca_91 : callable Try.prog 91 = true := by kernel_rfl
attribute [go_sem] ag_2 ag_3 ag_4 ag_5 ag_9 ag_22 ag_23 ag_26 ag_30 ag_36 ag_37 ag_41 ag_49 ag_66 ag_75 ag_76 ag_79 ag_82 ag_104 ag_107 ag_109 ag_124 ag_149 fo_41_1 fo_49_0 fo_49_1 fo_49_2 fo_49_3 fo_49_4 fo_68_0 fo_68_1 fo_75_0 fo_75_1 fo_79_0 fo_79_1 fo_79_2 fo_82_0 fo_82_1 fo_82_2 fo_82_3 fo_82_4 fo_106_0 fo_109_0 fo_109_1 fo_109_2 fo_109_3 is_22 is_23 is_24 is_30 is_35 is_36 is_37 is_46 ia_80 is_104 is_107 sz_2 sz_3 sz_4 sz_5 sz_9 sz_22 sz_23 sz_26 sz_30 sz_36 sz_37 sz_41 sz_49 sz_66 sz_68 sz_75 sz_76 sz_79 sz_82 sz_104 sz_106 sz_107 sz_109 sz_124 sz_149 zv_3 zv_4 zv_23 zv_30 zv_37 zv_41 zv_49 zv_68 zv_75 zv_76 zv_79 zv_82 zv_106 zv_109 zv_149 bz_41 bz_68 bz_75 bz_79 bz_82 bz_106 bz_109 mk_22 mk_107 bs_22_0 bs_22_1 bs_23_1 bs_30_0 bs_30_1 bs_30_2 bs_30_3 bs_30_4 bs_30_8 bs_30_9 bs_35_1 bs_36_0 bs_36_1 bs_36_2 bs_37_1 bs_37_2 bs_104_1 Try.underlying2 Try.underlying3 Try.underlying4 Try.underlying5 Try.underlying9 Try.underlying22 Try.underlying23 Try.underlying24 Try.underlying26 Try.underlying27 Try.underlying30 Try.underlying31 Try.underlying35 Try.underlying36 Try.underlying37 Try.underlying41 Try.underlying46 Try.underlying49 Try.underlying66 Try.underlying75 Try.underlying76 Try.underlying79 Try.underlying85 Try.underlying102 Try.underlying103 Try.underlying104 Try.underlying107 Try.underlying118 Try.underlying135 Try.underlying137 Try.underlying145 Try.underlying147 Try.underlying149 Try.underlying153 ca_6 ca_7 ca_8 ca_9 ca_10 ca_11 ca_12 ca_13 ca_14 ca_15 ca_16 ca_17 ca_19 ca_20 ca_21 ca_22 ca_23 ca_24 ca_25 ca_26 ca_28 ca_29 ca_30 ca_31 ca_32 ca_33 ca_34 ca_35 ca_36 ca_37 ca_38 ca_39 ca_40 ca_41 ca_42 ca_43 ca_44 ca_45 ca_46 ca_47 ca_48 ca_49 ca_50 ca_51 ca_52 ca_53 ca_54 ca_55 ca_56 ca_57 ca_58 ca_59 ca_60 ca_61 ca_62 ca_63 ca_64 ca_65 ca_66 ca_67 ca_68 ca_69 ca_70 ca_71 ca_72 ca_73 ca_76 ca_77 ca_78 ca_79 ca_91
end Go.Proofs.Ytmimialblhlklaa
