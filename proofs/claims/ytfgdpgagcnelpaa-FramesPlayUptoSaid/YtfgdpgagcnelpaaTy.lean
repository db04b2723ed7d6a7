/- Sizes and offsets of the types of this seat. -/
import Derived.Test.YtfgdpgagcnelpaaProg
import Derived.Test.YtfgdpgagcnelpaaV4
import Derived.KernelRfl
set_option linter.unusedVariables false
set_option linter.unusedSimpArgs false
set_option linter.unusedSimpArgs false
set_option maxRecDepth 100000
namespace Go.Proofs.Ytfgdpgagcnelpaa
open Go Go.Vm
theorem hm : Try.prog.follows .mixedOrders = true := by kernel_rfl
theorem ag_3 : aggV Try.prog 3 = some false := by kernel_rfl
theorem ag_4 : aggV Try.prog 4 = some false := by kernel_rfl
theorem ag_5 : aggV Try.prog 5 = some false := by kernel_rfl
theorem ag_23 : aggV Try.prog 23 = some false := by kernel_rfl
theorem ag_35 : aggV Try.prog 35 = some false := by kernel_rfl
theorem ag_37 : aggV Try.prog 37 = some true := by kernel_rfl
theorem ag_46 : aggV Try.prog 46 = some true := by kernel_rfl
theorem ag_49 : aggV Try.prog 49 = some false := by kernel_rfl
theorem ag_52 : aggV Try.prog 52 = some false := by kernel_rfl
theorem ag_59 : aggV Try.prog 59 = some false := by kernel_rfl
theorem ag_65 : aggV Try.prog 65 = some true := by kernel_rfl
theorem ag_67 : aggV Try.prog 67 = some true := by kernel_rfl
theorem ag_76 : aggV Try.prog 76 = some false := by kernel_rfl
theorem ag_83 : aggV Try.prog 83 = some true := by kernel_rfl
theorem ag_93 : aggV Try.prog 93 = some false := by kernel_rfl
theorem fo_37_0 : fieldOff Try.prog 37 0 = some 0 := by kernel_rfl
theorem fo_37_1 : fieldOff Try.prog 37 1 = some 1 := by kernel_rfl
theorem fo_37_2 : fieldOff Try.prog 37 2 = some 2 := by kernel_rfl
theorem fo_37_3 : fieldOff Try.prog 37 3 = some 3 := by kernel_rfl
theorem fo_46_0 : fieldOff Try.prog 46 0 = some 0 := by kernel_rfl
theorem fo_46_1 : fieldOff Try.prog 46 1 = some 1 := by kernel_rfl
theorem fo_46_2 : fieldOff Try.prog 46 2 = some 2 := by kernel_rfl
theorem fo_61_0 : fieldOff Try.prog 61 0 = some 0 := by kernel_rfl
theorem fo_61_1 : fieldOff Try.prog 61 1 = some 1 := by kernel_rfl
theorem fo_61_2 : fieldOff Try.prog 61 2 = some 2 := by kernel_rfl
theorem fo_67_0 : fieldOff Try.prog 67 0 = some 0 := by kernel_rfl
theorem fo_67_1 : fieldOff Try.prog 67 1 = some 1 := by kernel_rfl
theorem fo_67_2 : fieldOff Try.prog 67 2 = some 2 := by kernel_rfl
theorem fo_78_0 : fieldOff Try.prog 78 0 = some 0 := by kernel_rfl
theorem fo_78_1 : fieldOff Try.prog 78 1 = some 1 := by kernel_rfl
theorem fo_83_0 : fieldOff Try.prog 83 0 = some 0 := by kernel_rfl
theorem fo_83_1 : fieldOff Try.prog 83 1 = some 1 := by kernel_rfl
theorem fo_83_2 : fieldOff Try.prog 83 2 = some 2 := by kernel_rfl
theorem is_34 : idxSlice Try.prog 34 = some 4 := by kernel_rfl
theorem is_35 : idxSlice Try.prog 35 = some 1 := by kernel_rfl
theorem is_49 : idxSlice Try.prog 49 = some 1 := by kernel_rfl
theorem is_59 : idxSlice Try.prog 59 = some 258 := by kernel_rfl
theorem is_62 : idxSlice Try.prog 62 = some 1 := by kernel_rfl
theorem ia_65 : idxArray Try.prog 65 = some (256, 1) := by kernel_rfl
theorem is_76 : idxSlice Try.prog 76 = some 3 := by kernel_rfl
theorem is_93 : idxSlice Try.prog 93 = some 3 := by kernel_rfl
theorem sz_3 : szV Try.prog 3 = some 1 := by kernel_rfl
theorem sz_4 : szV Try.prog 4 = some 1 := by kernel_rfl
theorem sz_5 : szV Try.prog 5 = some 1 := by kernel_rfl
theorem sz_23 : szV Try.prog 23 = some 1 := by kernel_rfl
theorem sz_35 : szV Try.prog 35 = some 1 := by kernel_rfl
theorem sz_37 : szV Try.prog 37 = some 4 := by kernel_rfl
theorem sz_46 : szV Try.prog 46 = some 3 := by kernel_rfl
theorem sz_49 : szV Try.prog 49 = some 1 := by kernel_rfl
theorem sz_52 : szV Try.prog 52 = some 1 := by kernel_rfl
theorem sz_59 : szV Try.prog 59 = some 1 := by kernel_rfl
theorem sz_61 : szV Try.prog 61 = some 3 := by kernel_rfl
theorem sz_65 : szV Try.prog 65 = some 256 := by kernel_rfl
theorem sz_67 : szV Try.prog 67 = some 258 := by kernel_rfl
theorem sz_76 : szV Try.prog 76 = some 1 := by kernel_rfl
theorem sz_78 : szV Try.prog 78 = some 2 := by kernel_rfl
theorem sz_83 : szV Try.prog 83 = some 3 := by kernel_rfl
theorem sz_93 : szV Try.prog 93 = some 1 := by kernel_rfl
theorem zv_3 : zeroV Try.prog 3 = some (V.int IntKind.i64 0) := by kernel_rfl
theorem zv_4 : zeroV Try.prog 4 = some (V.bool false) := by kernel_rfl
theorem zv_37 : zeroV Try.prog 37 = some (V.agg [V.int IntKind.i64 0, V.int IntKind.i64 0, V.int IntKind.i64 0, V.slice none 0 0 true]) := by kernel_rfl
theorem zv_46 : zeroV Try.prog 46 = some (V.agg [V.int IntKind.i64 0, V.int IntKind.i64 0, V.int IntKind.i64 0]) := by kernel_rfl
theorem zv_61 : zeroV Try.prog 61 = some (V.agg [V.slice none 0 0 true, V.slice none 0 0 true, V.slice none 0 0 true]) := by kernel_rfl
theorem zv_78 : zeroV Try.prog 78 = some (V.agg [V.slice none 0 0 true, V.slice none 0 0 true]) := by kernel_rfl
theorem zv_83 : zeroV Try.prog 83 = some (V.agg [V.int IntKind.i64 0, V.int IntKind.i64 0, V.slice none 0 0 true]) := by kernel_rfl
theorem zv_93 : zeroV Try.prog 93 = some (V.slice none 0 0 true) := by kernel_rfl
theorem bz_46 (ps : List (Nat × V)) : builtV Try.prog 46 ps = fillV (fun (i : Nat) => (([(0, 1), (1, 1), (2, 1)] : List (Nat × Nat)).toArray)[i]?) [V.int IntKind.i64 0, V.int IntKind.i64 0, V.int IntKind.i64 0] ps := by kernel_rfl
theorem bz_61 (ps : List (Nat × V)) : builtV Try.prog 61 ps = fillV (fun (i : Nat) => (([(0, 1), (1, 1), (2, 1)] : List (Nat × Nat)).toArray)[i]?) [V.slice none 0 0 true, V.slice none 0 0 true, V.slice none 0 0 true] ps := by kernel_rfl
noncomputable def zc_67 : List V := ((zeroV Try.prog 67).getD undefV).cellsV
theorem zcl_67 : zc_67.length = 258 := by kernel_rfl
theorem bz_67 (ps : List (Nat × V)) : builtV Try.prog 67 ps = fillV (fun (i : Nat) => (([(0, 1), (1, 1), (2, 256)] : List (Nat × Nat)).toArray)[i]?) zc_67 ps := by kernel_rfl
theorem bz_78 (ps : List (Nat × V)) : builtV Try.prog 78 ps = fillV (fun (i : Nat) => (([(0, 1), (1, 1)] : List (Nat × Nat)).toArray)[i]?) [V.slice none 0 0 true, V.slice none 0 0 true] ps := by kernel_rfl
theorem bz_83 (ps : List (Nat × V)) : builtV Try.prog 83 ps = fillV (fun (i : Nat) => (([(0, 1), (1, 1), (2, 1)] : List (Nat × Nat)).toArray)[i]?) [V.int IntKind.i64 0, V.int IntKind.i64 0, V.slice none 0 0 true] ps := by kernel_rfl
noncomputable def ze_67 : List V := ((zeroV Try.prog 67).getD undefV).cellsV
theorem zel_67 : ze_67.length = 258 := by kernel_rfl
theorem mk_35 (l c : Int) (h : Heap) : makeSliceV Try.prog 35 l c h = if 0 ≤ l ∧ l ≤ c ∧ 1 * c.toNat ≤ 281474976710656 ∧ c ≤ 9223372036854775807 ∧ (Nat.beq (c.toNat * 1) 0 = true ∨ Nat.blt 0 ([V.int IntKind.u8 0] : List V).length = true) then some (.slice (some (h.n, 0)) l.toNat c.toNat true, h.push (.cells (Blk.rep (c.toNat * 1) [V.int IntKind.u8 0]) 5)) else none := by kernel_rfl
theorem mk_49 (l c : Int) (h : Heap) : makeSliceV Try.prog 49 l c h = if 0 ≤ l ∧ l ≤ c ∧ 8 * c.toNat ≤ 281474976710656 ∧ c ≤ 9223372036854775807 ∧ (Nat.beq (c.toNat * 1) 0 = true ∨ Nat.blt 0 ([V.int IntKind.i64 0] : List V).length = true) then some (.slice (some (h.n, 0)) l.toNat c.toNat true, h.push (.cells (Blk.rep (c.toNat * 1) [V.int IntKind.i64 0]) 3)) else none := by kernel_rfl
theorem mk_59 (l c : Int) (h : Heap) : makeSliceV Try.prog 59 l c h = if 0 ≤ l ∧ l ≤ c ∧ 272 * c.toNat ≤ 281474976710656 ∧ c ≤ 9223372036854775807 ∧ (Nat.beq (c.toNat * 258) 0 = true ∨ Nat.blt 0 (ze_67 : List V).length = true) then some (.slice (some (h.n, 0)) l.toNat c.toNat true, h.push (.cells (Blk.rep (c.toNat * 258) ze_67) 67)) else none := by kernel_rfl
theorem mk_76 (l c : Int) (h : Heap) : makeSliceV Try.prog 76 l c h = if 0 ≤ l ∧ l ≤ c ∧ 40 * c.toNat ≤ 281474976710656 ∧ c ≤ 9223372036854775807 ∧ (Nat.beq (c.toNat * 3) 0 = true ∨ Nat.blt 0 ([V.int IntKind.i64 0, V.int IntKind.i64 0, V.slice none 0 0 true] : List V).length = true) then some (.slice (some (h.n, 0)) l.toNat c.toNat true, h.push (.cells (Blk.rep (c.toNat * 3) [V.int IntKind.i64 0, V.int IntKind.i64 0, V.slice none 0 0 true]) 83)) else none := by kernel_rfl
theorem bs_35_0 (ps : List (Nat × V)) : builtSliceV Try.prog 35 0 ps = match fillV (fun i => some (i * 1, 1)) [] ps with | some r => some (5, r) | none => none := by kernel_rfl
theorem bs_35_1 (ps : List (Nat × V)) : builtSliceV Try.prog 35 1 ps = match fillV (fun i => some (i * 1, 1)) [V.int IntKind.u8 0] ps with | some r => some (5, r) | none => none := by kernel_rfl
theorem bs_35_2 (ps : List (Nat × V)) : builtSliceV Try.prog 35 2 ps = match fillV (fun i => some (i * 1, 1)) [V.int IntKind.u8 0, V.int IntKind.u8 0] ps with | some r => some (5, r) | none => none := by kernel_rfl
theorem bs_49_0 (ps : List (Nat × V)) : builtSliceV Try.prog 49 0 ps = match fillV (fun i => some (i * 1, 1)) [] ps with | some r => some (3, r) | none => none := by kernel_rfl
theorem bs_49_1 (ps : List (Nat × V)) : builtSliceV Try.prog 49 1 ps = match fillV (fun i => some (i * 1, 1)) [V.int IntKind.i64 0] ps with | some r => some (3, r) | none => none := by kernel_rfl
theorem bs_49_2 (ps : List (Nat × V)) : builtSliceV Try.prog 49 2 ps = match fillV (fun i => some (i * 1, 1)) [V.int IntKind.i64 0, V.int IntKind.i64 0] ps with | some r => some (3, r) | none => none := by kernel_rfl
theorem bs_62_2 (ps : List (Nat × V)) : builtSliceV Try.prog 62 2 ps = match fillV (fun i => some (i * 1, 1)) [V.ptr none, V.ptr none] ps with | some r => some (23, r) | none => none := by kernel_rfl
theorem bs_93_1 (ps : List (Nat × V)) : builtSliceV Try.prog 93 1 ps = match fillV (fun i => some (i * 3, 3)) [V.int IntKind.i64 0, V.int IntKind.i64 0, V.int IntKind.i64 0] ps with | some r => some (46, r) | none => none := by kernel_rfl
theorem ca_2 : callable Try.prog 2 = true := by kernel_rfl
theorem ca_3 : callable Try.prog 3 = true := by kernel_rfl
theorem ca_4 : callable Try.prog 4 = true := by kernel_rfl
theorem ca_5 : callable Try.prog 5 = true := by kernel_rfl
theorem ca_6 : callable Try.prog 6 = true := by kernel_rfl
theorem ca_7 : callable Try.prog 7 = true := by kernel_rfl
theorem ca_8 : callable Try.prog 8 = true := by kernel_rfl
theorem ca_9 : callable Try.prog 9 = true := by kernel_rfl
theorem ca_10 : callable Try.prog 10 = true := by kernel_rfl
theorem ca_11 : callable Try.prog 11 = true := by kernel_rfl
theorem ca_12 : callable Try.prog 12 = true := by kernel_rfl
theorem ca_13 : callable Try.prog 13 = true := by kernel_rfl
theorem ca_14 : callable Try.prog 14 = true := by kernel_rfl
theorem ca_15 : callable Try.prog 15 = true := by kernel_rfl
theorem ca_16 : callable Try.prog 16 = true := by kernel_rfl
theorem ca_17 : callable Try.prog 17 = true := by kernel_rfl
theorem ca_18 : callable Try.prog 18 = true := by kernel_rfl
theorem ca_19 : callable Try.prog 19 = true := by kernel_rfl
theorem ca_20 : callable Try.prog 20 = true := by kernel_rfl
theorem ca_21 : callable Try.prog 21 = true := by kernel_rfl
theorem ca_22 : callable Try.prog 22 = true := by kernel_rfl
theorem ca_23 : callable Try.prog 23 = true := by kernel_rfl
theorem ca_24 : callable Try.prog 24 = true := by kernel_rfl
theorem ca_25 : callable Try.prog 25 = true := by kernel_rfl
theorem ca_26 : callable Try.prog 26 = true := by kernel_rfl
theorem ca_27 : callable Try.prog 27 = true := by kernel_rfl
theorem ca_28 : callable Try.prog 28 = true := by kernel_rfl
theorem ca_29 : callable Try.prog 29 = true := by kernel_rfl
theorem ca_30 : callable Try.prog 30 = true := by kernel_rfl
theorem ca_31 : callable Try.prog 31 = true := by kernel_rfl
theorem ca_32 : callable Try.prog 32 = true := by kernel_rfl
theorem ca_33 : callable Try.prog 33 = true := by kernel_rfl
theorem ca_34 : callable Try.prog 34 = true := by kernel_rfl
theorem ca_35 : callable Try.prog 35 = true := by kernel_rfl
theorem ca_36 : callable Try.prog 36 = true := by kernel_rfl
theorem ca_37 : callable Try.prog 37 = true := by kernel_rfl
theorem ca_38 : callable Try.prog 38 = true := by kernel_rfl
theorem ca_39 : callable Try.prog 39 = true := by kernel_rfl
theorem ca_40 : callable Try.prog 40 = true := by kernel_rfl
theorem ca_41 : callable Try.prog 41 = true := by kernel_rfl
theorem ca_42 : callable Try.prog 42 = true := by kernel_rfl
theorem ca_43 : callable Try.prog 43 = true := by kernel_rfl
theorem ca_44 : callable Try.prog 44 = true := by kernel_rfl
theorem ca_45 : callable Try.prog 45 = true := by kernel_rfl
theorem ca_46 : callable Try.prog 46 = true := by kernel_rfl
theorem ca_47 : callable Try.prog 47 = true := by kernel_rfl
theorem ca_48 : callable Try.prog 48 = true := by kernel_rfl
theorem ca_49 : callable Try.prog 49 = true := by kernel_rfl
theorem ca_50 : callable Try.prog 50 = true := by kernel_rfl
theorem ca_51 : callable Try.prog 51 = true := by kernel_rfl
theorem ca_52 : callable Try.prog 52 = true := by kernel_rfl
theorem ca_53 : callable Try.prog 53 = true := by kernel_rfl
theorem ca_54 : callable Try.prog 54 = true := by kernel_rfl
theorem ca_55 : callable Try.prog 55 = true := by kernel_rfl
attribute [go_sem] ag_3 ag_4 ag_5 ag_23 ag_35 ag_37 ag_46 ag_49 ag_52 ag_59 ag_65 ag_67 ag_76 ag_83 ag_93 fo_37_0 fo_37_1 fo_37_2 fo_37_3 fo_46_0 fo_46_1 fo_46_2 fo_61_0 fo_61_1 fo_61_2 fo_67_0 fo_67_1 fo_67_2 fo_78_0 fo_78_1 fo_83_0 fo_83_1 fo_83_2 is_34 is_35 is_49 is_59 is_62 ia_65 is_76 is_93 sz_3 sz_4 sz_5 sz_23 sz_35 sz_37 sz_46 sz_49 sz_52 sz_59 sz_61 sz_65 sz_67 sz_76 sz_78 sz_83 sz_93 zv_3 zv_4 zv_37 zv_46 zv_61 zv_78 zv_83 zv_93 bz_46 bz_61 bz_67 bz_78 bz_83 zel_67 mk_35 mk_49 mk_59 mk_76 bs_35_0 bs_35_1 bs_35_2 bs_49_0 bs_49_1 bs_49_2 bs_62_2 bs_93_1 Try.underlying3 Try.underlying4 Try.underlying5 Try.underlying9 Try.underlying23 Try.underlying24 Try.underlying34 Try.underlying35 Try.underlying37 Try.underlying46 Try.underlying49 Try.underlying52 Try.underlying59 Try.underlying65 Try.underlying68 Try.underlying74 Try.underlying76 Try.underlying93 ca_2 ca_3 ca_4 ca_5 ca_6 ca_7 ca_8 ca_9 ca_10 ca_11 ca_12 ca_13 ca_14 ca_15 ca_16 ca_17 ca_18 ca_19 ca_20 ca_21 ca_22 ca_23 ca_24 ca_25 ca_26 ca_27 ca_28 ca_29 ca_30 ca_31 ca_32 ca_33 ca_34 ca_35 ca_36 ca_37 ca_38 ca_39 ca_40 ca_41 ca_42 ca_43 ca_44 ca_45 ca_46 ca_47 ca_48 ca_49 ca_50 ca_51 ca_52 ca_53 ca_54 ca_55
end Go.Proofs.Ytfgdpgagcnelpaa
