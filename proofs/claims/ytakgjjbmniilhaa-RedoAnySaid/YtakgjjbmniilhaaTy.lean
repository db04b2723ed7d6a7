/- Sizes and offsets of the types of this seat. -/
import Derived.Test.YtakgjjbmniilhaaProg
import Derived.Test.YtakgjjbmniilhaaV4
import Derived.KernelRfl
set_option linter.unusedVariables false
set_option maxRecDepth 100000
namespace Go.Proofs.Ytakgjjbmniilhaa
open Go Go.Vm
theorem hm : Try.prog.follows .mixedOrders = true := by kernel_rfl
theorem ag_2 : aggV Try.prog 2 = some false := by kernel_rfl
theorem ag_3 : aggV Try.prog 3 = some false := by kernel_rfl
theorem ag_4 : aggV Try.prog 4 = some false := by kernel_rfl
theorem ag_5 : aggV Try.prog 5 = some false := by kernel_rfl
theorem ag_22 : aggV Try.prog 22 = some false := by kernel_rfl
theorem ag_24 : aggV Try.prog 24 = some false := by kernel_rfl
theorem ag_32 : aggV Try.prog 32 = some false := by kernel_rfl
theorem ag_42 : aggV Try.prog 42 = some false := by kernel_rfl
theorem ag_44 : aggV Try.prog 44 = some true := by kernel_rfl
theorem ag_45 : aggV Try.prog 45 = some false := by kernel_rfl
theorem ag_55 : aggV Try.prog 55 = some false := by kernel_rfl
theorem ag_57 : aggV Try.prog 57 = some false := by kernel_rfl
theorem ag_66 : aggV Try.prog 66 = some false := by kernel_rfl
theorem ag_77 : aggV Try.prog 77 = some false := by kernel_rfl
theorem ag_78 : aggV Try.prog 78 = some false := by kernel_rfl
theorem ag_86 : aggV Try.prog 86 = some true := by kernel_rfl
theorem ag_90 : aggV Try.prog 90 = some true := by kernel_rfl
theorem ag_96 : aggV Try.prog 96 = some false := by kernel_rfl
theorem ag_101 : aggV Try.prog 101 = some true := by kernel_rfl
theorem ag_103 : aggV Try.prog 103 = some false := by kernel_rfl
theorem ag_107 : aggV Try.prog 107 = some true := by kernel_rfl
theorem ag_125 : aggV Try.prog 125 = some false := by kernel_rfl
theorem ag_127 : aggV Try.prog 127 = some true := by kernel_rfl
theorem ag_185 : aggV Try.prog 185 = some false := by kernel_rfl
theorem fo_44_0 : qP Try.prog 44 0 = some 0 := by kernel_rfl
theorem fo_44_1 : qP Try.prog 44 1 = some 1 := by kernel_rfl
theorem fo_44_2 : qP Try.prog 44 2 = some 2 := by kernel_rfl
theorem fo_44_3 : qP Try.prog 44 3 = some 3 := by kernel_rfl
theorem fo_44_4 : qP Try.prog 44 4 = some 4 := by kernel_rfl
theorem fo_47_0 : qP Try.prog 47 0 = some 0 := by kernel_rfl
theorem fo_47_1 : qP Try.prog 47 1 = some 1 := by kernel_rfl
theorem fo_47_2 : qP Try.prog 47 2 = some 2 := by kernel_rfl
theorem fo_47_3 : qP Try.prog 47 3 = some 3 := by kernel_rfl
theorem fo_47_4 : qP Try.prog 47 4 = some 8 := by kernel_rfl
theorem fo_47_5 : qP Try.prog 47 5 = some 9 := by kernel_rfl
theorem fo_47_6 : qP Try.prog 47 6 = some 10 := by kernel_rfl
theorem fo_47_7 : qP Try.prog 47 7 = some 11 := by kernel_rfl
theorem fo_47_8 : qP Try.prog 47 8 = some 12 := by kernel_rfl
theorem fo_68_0 : qP Try.prog 68 0 = some 0 := by kernel_rfl
theorem fo_68_1 : qP Try.prog 68 1 = some 1 := by kernel_rfl
theorem fo_80_0 : qP Try.prog 80 0 = some 0 := by kernel_rfl
theorem fo_80_1 : qP Try.prog 80 1 = some 1 := by kernel_rfl
theorem fo_80_2 : qP Try.prog 80 2 = some 2 := by kernel_rfl
theorem fo_90_0 : qP Try.prog 90 0 = some 0 := by kernel_rfl
theorem fo_90_1 : qP Try.prog 90 1 = some 1 := by kernel_rfl
theorem fo_90_2 : qP Try.prog 90 2 = some 2 := by kernel_rfl
theorem fo_90_3 : qP Try.prog 90 3 = some 3 := by kernel_rfl
theorem fo_105_0 : qP Try.prog 105 0 = some 0 := by kernel_rfl
theorem fo_105_1 : qP Try.prog 105 1 = some 1 := by kernel_rfl
theorem fo_105_2 : qP Try.prog 105 2 = some 2 := by kernel_rfl
theorem fo_107_0 : qP Try.prog 107 0 = some 0 := by kernel_rfl
theorem fo_107_1 : qP Try.prog 107 1 = some 1 := by kernel_rfl
theorem fo_107_2 : qP Try.prog 107 2 = some 2 := by kernel_rfl
theorem fo_107_3 : qP Try.prog 107 3 = some 3 := by kernel_rfl
theorem fo_107_4 : qP Try.prog 107 4 = some 4 := by kernel_rfl
theorem fo_109_0 : qP Try.prog 109 0 = some 0 := by kernel_rfl
theorem fo_109_1 : qP Try.prog 109 1 = some 1 := by kernel_rfl
theorem fo_109_2 : qP Try.prog 109 2 = some 2 := by kernel_rfl
theorem fo_109_3 : qP Try.prog 109 3 = some 3 := by kernel_rfl
theorem fo_109_4 : qP Try.prog 109 4 = some 8 := by kernel_rfl
theorem fo_109_5 : qP Try.prog 109 5 = some 9 := by kernel_rfl
theorem fo_109_6 : qP Try.prog 109 6 = some 10 := by kernel_rfl
theorem fo_109_7 : qP Try.prog 109 7 = some 11 := by kernel_rfl
theorem fo_109_8 : qP Try.prog 109 8 = some 12 := by kernel_rfl
theorem fo_127_0 : qP Try.prog 127 0 = some 0 := by kernel_rfl
theorem fo_127_1 : qP Try.prog 127 1 = some 1 := by kernel_rfl
theorem fo_161_0 : qP Try.prog 161 0 = some 0 := by kernel_rfl
theorem fo_161_1 : qP Try.prog 161 1 = some 1 := by kernel_rfl
theorem fo_168_0 : qP Try.prog 168 0 = some 0 := by kernel_rfl
theorem fo_168_1 : qP Try.prog 168 1 = some 1 := by kernel_rfl
theorem is_22 : xX Try.prog 22 = some 1 := by kernel_rfl
theorem is_45 : xX Try.prog 45 = some 1 := by kernel_rfl
theorem is_48 : xX Try.prog 48 = some 1 := by kernel_rfl
theorem is_65 : xX Try.prog 65 = some 3 := by kernel_rfl
theorem is_66 : xX Try.prog 66 = some 1 := by kernel_rfl
theorem is_77 : xX Try.prog 77 = some 128 := by kernel_rfl
theorem ia_86 : idxArray Try.prog 86 = some (2, 1) := by kernel_rfl
theorem is_103 : xX Try.prog 103 = some 1 := by kernel_rfl
theorem is_125 : xX Try.prog 125 = some 2 := by kernel_rfl
theorem ia_153 : idxArray Try.prog 153 = some (6, 1) := by kernel_rfl
theorem is_162 : xX Try.prog 162 = some 1 := by kernel_rfl
theorem sz_2 : szV Try.prog 2 = some 1 := by kernel_rfl
theorem sz_3 : szV Try.prog 3 = some 1 := by kernel_rfl
theorem sz_4 : szV Try.prog 4 = some 1 := by kernel_rfl
theorem sz_5 : szV Try.prog 5 = some 1 := by kernel_rfl
theorem sz_22 : szV Try.prog 22 = some 1 := by kernel_rfl
theorem sz_24 : szV Try.prog 24 = some 1 := by kernel_rfl
theorem sz_32 : szV Try.prog 32 = some 1 := by kernel_rfl
theorem sz_42 : szV Try.prog 42 = some 1 := by kernel_rfl
theorem sz_44 : szV Try.prog 44 = some 5 := by kernel_rfl
theorem sz_45 : szV Try.prog 45 = some 1 := by kernel_rfl
theorem sz_47 : szV Try.prog 47 = some 13 := by kernel_rfl
theorem sz_55 : szV Try.prog 55 = some 1 := by kernel_rfl
theorem sz_57 : szV Try.prog 57 = some 1 := by kernel_rfl
theorem sz_66 : szV Try.prog 66 = some 1 := by kernel_rfl
theorem sz_77 : szV Try.prog 77 = some 1 := by kernel_rfl
theorem sz_78 : szV Try.prog 78 = some 1 := by kernel_rfl
theorem sz_80 : szV Try.prog 80 = some 3 := by kernel_rfl
theorem sz_86 : szV Try.prog 86 = some 2 := by kernel_rfl
theorem sz_90 : szV Try.prog 90 = some 4 := by kernel_rfl
theorem sz_96 : szV Try.prog 96 = some 1 := by kernel_rfl
theorem qQ : szV Try.prog 101 = some 128 := by kernel_rfl
theorem sz_103 : szV Try.prog 103 = some 1 := by kernel_rfl
theorem sz_105 : szV Try.prog 105 = some 3 := by kernel_rfl
theorem sz_107 : szV Try.prog 107 = some 5 := by kernel_rfl
theorem sz_109 : szV Try.prog 109 = some 13 := by kernel_rfl
theorem sz_125 : szV Try.prog 125 = some 1 := by kernel_rfl
theorem sz_127 : szV Try.prog 127 = some 2 := by kernel_rfl
theorem sz_153 : szV Try.prog 153 = some 6 := by kernel_rfl
theorem sz_161 : szV Try.prog 161 = some 2 := by kernel_rfl
theorem sz_168 : szV Try.prog 168 = some 2 := by kernel_rfl
theorem sz_185 : szV Try.prog 185 = some 1 := by kernel_rfl
theorem zv_2 : zeroV Try.prog 2 = some (V.int IntKind.i64 0) := by kernel_rfl
theorem zv_3 : zeroV Try.prog 3 = some (V.int IntKind.i64 0) := by kernel_rfl
theorem zv_4 : zeroV Try.prog 4 = some (V.bool false) := by kernel_rfl
theorem zv_22 : zeroV Try.prog 22 = some (V.slice none 0 0 true) := by kernel_rfl
theorem zv_24 : zeroV Try.prog 24 = some (V.ptr none) := by kernel_rfl
theorem zv_44 : zeroV Try.prog 44 = some (V.agg [V.int IntKind.u64 0, V.int IntKind.u64 0, V.int IntKind.u64 0, V.int IntKind.u64 0, V.int IntKind.u64 0]) := by kernel_rfl
theorem zv_45 : zeroV Try.prog 45 = some (V.slice none 0 0 true) := by kernel_rfl
theorem zv_47 : zeroV Try.prog 47 = some (V.agg [V.ptr none, V.int IntKind.i64 0, V.int IntKind.i64 0, V.int IntKind.u64 0, V.int IntKind.u64 0, V.int IntKind.u64 0, V.int IntKind.u64 0, V.int IntKind.u64 0, V.int IntKind.u64 0, V.int IntKind.i64 0, V.int IntKind.u64 0, V.slice none 0 0 true, V.slice none 0 0 true]) := by kernel_rfl
theorem zv_80 : zeroV Try.prog 80 = some (V.agg [V.slice none 0 0 true, V.map none, V.int IntKind.i64 0]) := by kernel_rfl
theorem zv_86 : zeroV Try.prog 86 = some (V.agg [V.int IntKind.i64 0, V.int IntKind.i64 0]) := by kernel_rfl
theorem zv_90 : zeroV Try.prog 90 = some (V.agg [V.int IntKind.u64 0, V.int IntKind.u64 0, V.int IntKind.u8 0, V.int IntKind.u8 0]) := by kernel_rfl
theorem zv_105 : zeroV Try.prog 105 = some (V.agg [V.slice none 0 0 true, V.slice none 0 0 true, V.int IntKind.i64 0]) := by kernel_rfl
theorem zv_107 : zeroV Try.prog 107 = some (V.agg [V.int IntKind.u64 0, V.int IntKind.u64 0, V.int IntKind.u64 0, V.int IntKind.u64 0, V.int IntKind.u64 0]) := by kernel_rfl
theorem zv_109 : zeroV Try.prog 109 = some (V.agg [V.ptr none, V.int IntKind.i64 0, V.int IntKind.i64 0, V.int IntKind.u64 0, V.int IntKind.u64 0, V.int IntKind.u64 0, V.int IntKind.u64 0, V.int IntKind.u64 0, V.slice none 0 0 true, V.slice none 0 0 true, V.int IntKind.u64 0, V.int IntKind.i64 0, V.int IntKind.u64 0]) := by kernel_rfl
theorem zv_125 : zeroV Try.prog 125 = some (V.slice none 0 0 true) := by kernel_rfl
theorem zv_127 : zeroV Try.prog 127 = some (V.agg [V.int IntKind.i64 0, V.int IntKind.i64 0]) := by kernel_rfl
theorem zv_153 : zeroV Try.prog 153 = some (V.agg [V.int IntKind.u64 0, V.int IntKind.u64 0, V.int IntKind.u64 0, V.int IntKind.u64 0, V.int IntKind.u64 0, V.int IntKind.u64 0]) := by kernel_rfl
theorem zv_161 : zeroV Try.prog 161 = some (V.agg [V.slice none 0 0 true, V.int IntKind.i64 0]) := by kernel_rfl
theorem zv_168 : zeroV Try.prog 168 = some (V.agg [V.slice none 0 0 true, V.int IntKind.i64 0]) := by kernel_rfl
theorem zv_185 : zeroV Try.prog 185 = some (V.int IntKind.u64 0) := by kernel_rfl
theorem bz_44 (ps : List (Nat × V)) : jV Try.prog 44 ps = zJ (fun (i : Nat) => (([(0, 1), (1, 1), (2, 1), (3, 1), (4, 1)] : List (Nat × Nat)).toArray)[i]?) [V.int IntKind.u64 0, V.int IntKind.u64 0, V.int IntKind.u64 0, V.int IntKind.u64 0, V.int IntKind.u64 0] ps := by kernel_rfl
theorem bz_47 (ps : List (Nat × V)) : jV Try.prog 47 ps = zJ (fun (i : Nat) => (([(0, 1), (1, 1), (2, 1), (3, 5), (8, 1), (9, 1), (10, 1), (11, 1), (12, 1)] : List (Nat × Nat)).toArray)[i]?) [V.ptr none, V.int IntKind.i64 0, V.int IntKind.i64 0, V.int IntKind.u64 0, V.int IntKind.u64 0, V.int IntKind.u64 0, V.int IntKind.u64 0, V.int IntKind.u64 0, V.int IntKind.u64 0, V.int IntKind.i64 0, V.int IntKind.u64 0, V.slice none 0 0 true, V.slice none 0 0 true] ps := by kernel_rfl
theorem bz_80 (ps : List (Nat × V)) : jV Try.prog 80 ps = zJ (fun (i : Nat) => (([(0, 1), (1, 1), (2, 1)] : List (Nat × Nat)).toArray)[i]?) [V.slice none 0 0 true, V.map none, V.int IntKind.i64 0] ps := by kernel_rfl
theorem bz_90 (ps : List (Nat × V)) : jV Try.prog 90 ps = zJ (fun (i : Nat) => (([(0, 1), (1, 1), (2, 1), (3, 1)] : List (Nat × Nat)).toArray)[i]?) [V.int IntKind.u64 0, V.int IntKind.u64 0, V.int IntKind.u8 0, V.int IntKind.u8 0] ps := by kernel_rfl
theorem bz_105 (ps : List (Nat × V)) : jV Try.prog 105 ps = zJ (fun (i : Nat) => (([(0, 1), (1, 1), (2, 1)] : List (Nat × Nat)).toArray)[i]?) [V.slice none 0 0 true, V.slice none 0 0 true, V.int IntKind.i64 0] ps := by kernel_rfl
theorem bz_107 (ps : List (Nat × V)) : jV Try.prog 107 ps = zJ (fun (i : Nat) => (([(0, 1), (1, 1), (2, 1), (3, 1), (4, 1)] : List (Nat × Nat)).toArray)[i]?) [V.int IntKind.u64 0, V.int IntKind.u64 0, V.int IntKind.u64 0, V.int IntKind.u64 0, V.int IntKind.u64 0] ps := by kernel_rfl
theorem bz_109 (ps : List (Nat × V)) : jV Try.prog 109 ps = zJ (fun (i : Nat) => (([(0, 1), (1, 1), (2, 1), (3, 5), (8, 1), (9, 1), (10, 1), (11, 1), (12, 1)] : List (Nat × Nat)).toArray)[i]?) [V.ptr none, V.int IntKind.i64 0, V.int IntKind.i64 0, V.int IntKind.u64 0, V.int IntKind.u64 0, V.int IntKind.u64 0, V.int IntKind.u64 0, V.int IntKind.u64 0, V.slice none 0 0 true, V.slice none 0 0 true, V.int IntKind.u64 0, V.int IntKind.i64 0, V.int IntKind.u64 0] ps := by kernel_rfl
theorem bz_127 (ps : List (Nat × V)) : jV Try.prog 127 ps = zJ (fun (i : Nat) => (([(0, 1), (1, 1)] : List (Nat × Nat)).toArray)[i]?) [V.int IntKind.i64 0, V.int IntKind.i64 0] ps := by kernel_rfl
theorem bz_161 (ps : List (Nat × V)) : jV Try.prog 161 ps = zJ (fun (i : Nat) => (([(0, 1), (1, 1)] : List (Nat × Nat)).toArray)[i]?) [V.slice none 0 0 true, V.int IntKind.i64 0] ps := by kernel_rfl
theorem bz_168 (ps : List (Nat × V)) : jV Try.prog 168 ps = zJ (fun (i : Nat) => (([(0, 1), (1, 1)] : List (Nat × Nat)).toArray)[i]?) [V.slice none 0 0 true, V.int IntKind.i64 0] ps := by kernel_rfl
noncomputable def jD : List V := ((zeroV Try.prog 101).getD qE).qZ
theorem zel_101 : jD.length = 128 := by kernel_rfl
theorem mk_22 (l c : Int) (h : Heap) : xP Try.prog 22 l c h = if 0 ≤ l ∧ l ≤ c ∧ 1 * c.toNat ≤ 281474976710656 ∧ c ≤ 9223372036854775807 ∧ (Nat.beq (c.toNat * 1) 0 = true ∨ Nat.blt 0 ([V.int IntKind.u8 0] : List V).length = true) then some (.slice (some (h.n, 0)) l.toNat c.toNat true, h.push (.cells (Blk.rep (c.toNat * 1) [V.int IntKind.u8 0]) 5)) else none := by kernel_rfl
theorem mk_77 (l c : Int) (h : Heap) : xP Try.prog 77 l c h = if 0 ≤ l ∧ l ≤ c ∧ 128 * c.toNat ≤ 281474976710656 ∧ c ≤ 9223372036854775807 ∧ (Nat.beq (c.toNat * 128) 0 = true ∨ Nat.blt 0 (jD : List V).length = true) then some (.slice (some (h.n, 0)) l.toNat c.toNat true, h.push (.cells (Blk.rep (c.toNat * 128) jD) 101)) else none := by kernel_rfl
theorem mk_103 (l c : Int) (h : Heap) : xP Try.prog 103 l c h = if 0 ≤ l ∧ l ≤ c ∧ 24 * c.toNat ≤ 281474976710656 ∧ c ≤ 9223372036854775807 ∧ (Nat.beq (c.toNat * 1) 0 = true ∨ Nat.blt 0 ([V.slice none 0 0 true] : List V).length = true) then some (.slice (some (h.n, 0)) l.toNat c.toNat true, h.push (.cells (Blk.rep (c.toNat * 1) [V.slice none 0 0 true]) 45)) else none := by kernel_rfl
theorem bs_22_0 (ps : List (Nat × V)) : kD Try.prog 22 0 ps = match zJ (fun i => some (i * 1, 1)) [] ps with | some r => some (5, r) | none => none := by kernel_rfl
theorem bs_22_1 (ps : List (Nat × V)) : kD Try.prog 22 1 ps = match zJ (fun i => some (i * 1, 1)) [V.int IntKind.u8 0] ps with | some r => some (5, r) | none => none := by kernel_rfl
theorem bs_22_2 (ps : List (Nat × V)) : kD Try.prog 22 2 ps = match zJ (fun i => some (i * 1, 1)) [V.int IntKind.u8 0, V.int IntKind.u8 0] ps with | some r => some (5, r) | none => none := by kernel_rfl
theorem bs_22_3 (ps : List (Nat × V)) : kD Try.prog 22 3 ps = match zJ (fun i => some (i * 1, 1)) [V.int IntKind.u8 0, V.int IntKind.u8 0, V.int IntKind.u8 0] ps with | some r => some (5, r) | none => none := by kernel_rfl
theorem bs_45_0 (ps : List (Nat × V)) : kD Try.prog 45 0 ps = match zJ (fun i => some (i * 1, 1)) [] ps with | some r => some (22, r) | none => none := by kernel_rfl
theorem bs_45_1 (ps : List (Nat × V)) : kD Try.prog 45 1 ps = match zJ (fun i => some (i * 1, 1)) [V.slice none 0 0 true] ps with | some r => some (22, r) | none => none := by kernel_rfl
theorem bs_45_4 (ps : List (Nat × V)) : kD Try.prog 45 4 ps = match zJ (fun i => some (i * 1, 1)) [V.slice none 0 0 true, V.slice none 0 0 true, V.slice none 0 0 true, V.slice none 0 0 true] ps with | some r => some (22, r) | none => none := by kernel_rfl
theorem bs_45_6 (ps : List (Nat × V)) : kD Try.prog 45 6 ps = match zJ (fun i => some (i * 1, 1)) [V.slice none 0 0 true, V.slice none 0 0 true, V.slice none 0 0 true, V.slice none 0 0 true, V.slice none 0 0 true, V.slice none 0 0 true] ps with | some r => some (22, r) | none => none := by kernel_rfl
theorem bs_48_2 (ps : List (Nat × V)) : kD Try.prog 48 2 ps = match zJ (fun i => some (i * 1, 1)) [V.ptr none, V.ptr none] ps with | some r => some (32, r) | none => none := by kernel_rfl
theorem bs_66_1 (ps : List (Nat × V)) : kD Try.prog 66 1 ps = match zJ (fun i => some (i * 1, 1)) [V.int IntKind.i64 0] ps with | some r => some (3, r) | none => none := by kernel_rfl
theorem bs_125_1 (ps : List (Nat × V)) : kD Try.prog 125 1 ps = match zJ (fun i => some (i * 2, 2)) [V.int IntKind.i64 0, V.int IntKind.i64 0] ps with | some r => some (127, r) | none => none := by kernel_rfl
theorem bs_162_1 (ps : List (Nat × V)) : kD Try.prog 162 1 ps = match zJ (fun i => some (i * 1, 1)) [V.int IntKind.u64 0] ps with | some r => some (42, r) | none => none := by kernel_rfl
theorem bs_162_6 (ps : List (Nat × V)) : kD Try.prog 162 6 ps = match zJ (fun i => some (i * 1, 1)) [V.int IntKind.u64 0, V.int IntKind.u64 0, V.int IntKind.u64 0, V.int IntKind.u64 0, V.int IntKind.u64 0, V.int IntKind.u64 0] ps with | some r => some (42, r) | none => none := by kernel_rfl
theorem ca_4 : callable Try.prog 4 = true := by kernel_rfl
theorem ca_7 : callable Try.prog 7 = true := by kernel_rfl
theorem ca_8 : callable Try.prog 8 = true := by kernel_rfl
theorem ca_9 : callable Try.prog 9 = true := by kernel_rfl
theorem ca_10 : callable Try.prog 10 = true := by kernel_rfl
theorem ca_11 : callable Try.prog 11 = true := by kernel_rfl
theorem ca_12 : callable Try.prog 12 = true := by kernel_rfl
theorem ca_13 : callable Try.prog 13 = true := by kernel_rfl
theorem ca_14 : callable Try.prog 14 = true := by kernel_rfl
theorem ca_15 : callable Try.prog 15 = true := by kernel_rfl
theorem ca_16 : callable Try.prog 16 = true := by kernel_rfl
theorem ca_17 : callable Try.prog 17 = true := by kernel_rfl
theorem ca_18 : callable Try.prog 18 = true := by kernel_rfl
theorem ca_19 : callable Try.prog 19 = true := by kernel_rfl
theorem ca_20 : callable Try.prog 20 = true := by kernel_rfl
theorem ca_21 : callable Try.prog 21 = true := by kernel_rfl
theorem ca_22 : callable Try.prog 22 = true := by kernel_rfl
theorem ca_23 : callable Try.prog 23 = true := by kernel_rfl
theorem ca_24 : callable Try.prog 24 = true := by kernel_rfl
theorem ca_25 : callable Try.prog 25 = true := by kernel_rfl
theorem ca_26 : callable Try.prog 26 = true := by kernel_rfl
theorem ca_27 : callable Try.prog 27 = true := by kernel_rfl
theorem ca_28 : callable Try.prog 28 = true := by kernel_rfl
theorem ca_29 : callable Try.prog 29 = true := by kernel_rfl
theorem ca_30 : callable Try.prog 30 = true := by kernel_rfl
theorem ca_31 : callable Try.prog 31 = true := by kernel_rfl
theorem ca_32 : callable Try.prog 32 = true := by kernel_rfl
theorem ca_33 : callable Try.prog 33 = true := by kernel_rfl
theorem ca_34 : callable Try.prog 34 = true := by kernel_rfl
theorem ca_35 : callable Try.prog 35 = true := by kernel_rfl
theorem ca_36 : callable Try.prog 36 = true := by kernel_rfl
theorem ca_37 : callable Try.prog 37 = true := by kernel_rfl
theorem ca_38 : callable Try.prog 38 = true := by kernel_rfl
theorem ca_39 : callable Try.prog 39 = true := by kernel_rfl
theorem ca_40 : callable Try.prog 40 = true := by kernel_rfl
theorem ca_41 : callable Try.prog 41 = true := by kernel_rfl
theorem ca_42 : callable Try.prog 42 = true := by kernel_rfl
theorem ca_43 : callable Try.prog 43 = true := by kernel_rfl
theorem ca_44 : callable Try.prog 44 = true := by kernel_rfl
theorem ca_45 : callable Try.prog 45 = true := by kernel_rfl
theorem ca_46 : callable Try.prog 46 = true := by kernel_rfl
theorem ca_47 : callable Try.prog 47 = true := by kernel_rfl
theorem ca_48 : callable Try.prog 48 = true := by kernel_rfl
theorem ca_49 : callable Try.prog 49 = true := by kernel_rfl
theorem ca_50 : callable Try.prog 50 = true := by kernel_rfl
theorem ca_51 : callable Try.prog 51 = true := by kernel_rfl
theorem ca_52 : callable Try.prog 52 = true := by kernel_rfl
theorem ca_53 : callable Try.prog 53 = true := by kernel_rfl
theorem ca_54 : callable Try.prog 54 = true := by kernel_rfl
theorem ca_55 : callable Try.prog 55 = true := by kernel_rfl
theorem ca_56 : callable Try.prog 56 = true := by kernel_rfl
theorem ca_57 : callable Try.prog 57 = true := by kernel_rfl
theorem ca_58 : callable Try.prog 58 = true := by kernel_rfl
theorem ca_59 : callable Try.prog 59 = true := by kernel_rfl
theorem ca_60 : callable Try.prog 60 = true := by kernel_rfl
theorem ca_61 : callable Try.prog 61 = true := by kernel_rfl
theorem ca_62 : callable Try.prog 62 = true := by kernel_rfl
theorem ca_63 : callable Try.prog 63 = true := by kernel_rfl
theorem ca_64 : callable Try.prog 64 = true := by kernel_rfl
theorem ca_65 : callable Try.prog 65 = true := by kernel_rfl
theorem ca_66 : callable Try.prog 66 = true := by kernel_rfl
theorem ca_67 : callable Try.prog 67 = true := by kernel_rfl
theorem ca_68 : callable Try.prog 68 = true := by kernel_rfl
theorem ca_69 : callable Try.prog 69 = true := by kernel_rfl
theorem ca_70 : callable Try.prog 70 = true := by kernel_rfl
theorem ca_71 : callable Try.prog 71 = true := by kernel_rfl
theorem ca_72 : callable Try.prog 72 = true := by kernel_rfl
theorem ca_73 : callable Try.prog 73 = true := by kernel_rfl
theorem ca_74 : callable Try.prog 74 = true := by kernel_rfl
theorem ca_75 : callable Try.prog 75 = true := by kernel_rfl
theorem ca_76 : callable Try.prog 76 = true := by kernel_rfl
theorem ca_77 : callable Try.prog 77 = true := by kernel_rfl
theorem ca_78 : callable Try.prog 78 = true := by kernel_rfl
theorem ca_79 : callable Try.prog 79 = true := by kernel_rfl
theorem ca_80 : callable Try.prog 80 = true := by kernel_rfl
theorem ca_81 : callable Try.prog 81 = true := by kernel_rfl
theorem ca_82 : callable Try.prog 82 = true := by kernel_rfl
theorem ca_83 : callable Try.prog 83 = true := by kernel_rfl
theorem ca_84 : callable Try.prog 84 = true := by kernel_rfl
theorem ca_85 : callable Try.prog 85 = true := by kernel_rfl
theorem ca_86 : callable Try.prog 86 = true := by kernel_rfl
theorem ca_87 : callable Try.prog 87 = true := by kernel_rfl
theorem ca_89 : callable Try.prog 89 = true := by kernel_rfl
theorem ca_90 : callable Try.prog 90 = true := by kernel_rfl
theorem ca_91 : callable Try.prog 91 = true := by kernel_rfl
theorem ca_92 : callable Try.prog 92 = true := by kernel_rfl
theorem ca_93 : callable Try.prog 93 = true := by kernel_rfl
theorem ca_94 : callable Try.prog 94 = true := by kernel_rfl
theorem ca_95 : callable Try.prog 95 = true := by kernel_rfl
theorem ca_96 : callable Try.prog 96 = true := by kernel_rfl
theorem ca_97 : callable Try.prog 97 = true := by kernel_rfl
theorem ca_98 : callable Try.prog 98 = true := by kernel_rfl
theorem ca_99 : callable Try.prog 99 = true := by kernel_rfl
theorem ca_100 : callable Try.prog 100 = true := by kernel_rfl
theorem ca_101 : callable Try.prog 101 = true := by kernel_rfl
theorem ca_102 : callable Try.prog 102 = true := by kernel_rfl
attribute [go_sem] ag_2 ag_3 ag_4 ag_5 ag_22 ag_24 ag_32 ag_42 ag_44 ag_45 ag_55 ag_57 ag_66 ag_77 ag_78 ag_86 ag_90 ag_96 ag_101 ag_103 ag_107 ag_125 ag_127 ag_185 fo_44_0 fo_44_1 fo_44_2 fo_44_3 fo_44_4 fo_47_0 fo_47_1 fo_47_2 fo_47_3 fo_47_4 fo_47_5 fo_47_6 fo_47_7 fo_47_8 fo_68_0 fo_68_1 fo_80_0 fo_80_1 fo_80_2 fo_90_0 fo_90_1 fo_90_2 fo_90_3 fo_105_0 fo_105_1 fo_105_2 fo_107_0 fo_107_1 fo_107_2 fo_107_3 fo_107_4 fo_109_0 fo_109_1 fo_109_2 fo_109_3 fo_109_4 fo_109_5 fo_109_6 fo_109_7 fo_109_8 fo_127_0 fo_127_1 fo_161_0 fo_161_1 fo_168_0 fo_168_1 is_22 is_45 is_48 is_65 is_66 is_77 ia_86 is_103 is_125 ia_153 is_162 sz_2 sz_3 sz_4 sz_5 sz_22 sz_24 sz_32 sz_42 sz_44 sz_45 sz_47 sz_55 sz_57 sz_66 sz_77 sz_78 sz_80 sz_86 sz_90 sz_96 qQ sz_103 sz_105 sz_107 sz_109 sz_125 sz_127 sz_153 sz_161 sz_168 sz_185 zv_2 zv_3 zv_4 zv_22 zv_24 zv_44 zv_45 zv_47 zv_80 zv_86 zv_90 zv_105 zv_107 zv_109 zv_125 zv_127 zv_153 zv_161 zv_168 zv_185 bz_44 bz_47 bz_80 bz_90 bz_105 bz_107 bz_109 bz_127 bz_161 bz_168 zel_101 mk_22 mk_77 mk_103 bs_22_0 bs_22_1 bs_22_2 bs_22_3 bs_45_0 bs_45_1 bs_45_4 bs_45_6 bs_48_2 bs_66_1 bs_125_1 bs_162_1 bs_162_6 Try.underlying2 Try.underlying3 Try.underlying4 Try.underlying5 Try.underlying9 Try.underlying22 Try.underlying24 Try.underlying25 Try.underlying32 Try.underlying42 Try.underlying44 Try.underlying45 Try.underlying52 Try.underlying55 Try.underlying57 Try.underlying65 Try.underlying66 Try.underlying77 Try.underlying78 Try.underlying90 Try.underlying101 Try.underlying103 Try.underlying107 Try.underlying123 Try.underlying125 Try.underlying130 Try.underlying148 Try.underlying151 Try.underlying159 Try.underlying162 Try.underlying169 Try.underlying175 Try.underlying183 Try.underlying185 Try.underlying189 ca_4 ca_7 ca_8 ca_9 ca_10 ca_11 ca_12 ca_13 ca_14 ca_15 ca_16 ca_17 ca_18 ca_19 ca_20 ca_21 ca_22 ca_23 ca_24 ca_25 ca_26 ca_27 ca_28 ca_29 ca_30 ca_31 ca_32 ca_33 ca_34 ca_35 ca_36 ca_37 ca_38 ca_39 ca_40 ca_41 ca_42 ca_43 ca_44 ca_45 ca_46 ca_47 ca_48 ca_49 ca_50 ca_51 ca_52 ca_53 ca_54 ca_55 ca_56 ca_57 ca_58 ca_59 ca_60 ca_61 ca_62 ca_63 ca_64 ca_65 ca_66 ca_67 ca_68 ca_69 ca_70 ca_71 ca_72 ca_73 ca_74 ca_75 ca_76 ca_77 ca_78 ca_79 ca_80 ca_81 ca_82 ca_83 ca_84 ca_85 ca_86 ca_87 ca_89 ca_90 ca_91 ca_92 ca_93 ca_94 ca_95 ca_96 ca_97 ca_98 ca_99 ca_100 ca_101 ca_102
end Go.Proofs.Ytakgjjbmniilhaa
