/- What known answers (steadinglaw15), run in parts. -/
import Derived.Test.YtghhpinkhdiocaaGreatHk
set_option linter.unusedVariables false
set_option linter.unusedSimpArgs false
set_option linter.unusedSimpArgs false
set_option maxRecDepth 1000000
namespace Go.Proofs.YtghhpinkhdiocaaGreat
open Go Go.Vm

def kn_b0_0 : O := .cells ⟨1, [.bool false], .nil, false, []⟩ 4
def kn_t0 : List (Nat × V) := [(0, .ptr (some (0, 0)))]
def kn_h0 : List (Nat × O) := [(0, kn_b0_0)]
theorem kn_e0 : runC Tryz.prog hk1 100000 80 (Code.sa (bodyOf Tryz.prog 6)) ⟨⟨145, .nil⟩, []⟩ (⟨0, .nil⟩) .norm 145 [] kn_t0 1 kn_h0 = true := by kernel_rfl
def kn_b72_0 : O := .cells ⟨1024, [.int .u8 0], .nil, false, []⟩ 277
def kn_b73_0 : O := .map [] 0
def kn_b74_0 : O := .cells ⟨3, [.slice (some (72, 0)) 8 8 true, .map (some 73), .int .i64 0], .nil, false, []⟩ 234
def kn_b99_0 : O := .cells ⟨1032, [.int .u8 0], (mkTr [(0, .int .i64 1), (1, .int .i64 1), (2, .int .u8 5), (3, .int .u8 16), (4, .int .u8 1), (6, .int .u8 5), (7, .int .u8 32), (8, .int .u8 3), (10, .int .u8 3), (12, .int .u8 2), (14, .int .u8 5), (15, .int .u8 16), (16, .int .u8 1), (18, .int .u8 3), (20, .int .u8 2), (22, .int .u8 2), (258, .int .i64 0), (259, .int .i64 0), (516, .int .i64 0), (517, .int .i64 0), (774, .int .i64 0), (775, .int .i64 0)]), false, []⟩ 192
def kn_b101_0 : O := .cells ⟨2, [.int .i64 1, .int .i64 2], .nil, false, []⟩ 3
def kn_b102_0 : O := .cells ⟨2, [.int .i64 0, .int .i64 1], .nil, false, []⟩ 3
def kn_b103_0 : O := .cells ⟨3, [.slice (some (99, 0)) 4 4 true, .slice (some (101, 0)) 2 2 false, .slice (some (102, 0)) 2 2 true], .nil, false, []⟩ 176
def kn_b105_0 : O := .cells ⟨26, [.slice none 0 0 true, .int .i64 0, .int .i64 0], (mkTr [(0, .ptr (some (74, 0))), (3, .slice (some (106, 0)) 1 1 true), (5, .int .i64 4), (6, .slice (some (107, 0)) 1 1 true), (25, .int .i64 2)]), false, []⟩ 204
def kn_b106_0 : O := .cells ⟨1, [.int .u64 0], .nil, false, []⟩ 273
def kn_b107_0 : O := .cells ⟨1, [.int .u64 15], .nil, false, []⟩ 273
def kn_b109_0 : O := .cells ⟨2, [.int .i64 0, .int .i64 1], .nil, false, []⟩ 3
def kn_b110_0 : O := .map [] 0
def kn_b111_0 : O := .cells ⟨2, [.slice (some (109, 0)) 2 2 false, .map (some 110)], .nil, false, []⟩ 213
def kn_b112_0 : O := .map [(.int .i64 1, .agg [.int .i64 1, .int .i64 0, .int .i64 0, .int .i64 0, .int .i64 0, .int .i64 0, .int .i64 15], 0), (.int .i64 2, .agg [.int .i64 2, .int .i64 0, .int .i64 0, .int .i64 0, .int .i64 1, .int .i64 0, .int .i64 15], 1), (.int .i64 3, .agg [.int .i64 3, .int .i64 0, .int .i64 0, .int .i64 0, .int .i64 2, .int .i64 0, .int .i64 15], 2), (.int .i64 4, .agg [.int .i64 4, .int .i64 0, .int .i64 1, .int .i64 1, .int .i64 0, .int .i64 1, .int .i64 15], 3), (.int .i64 5, .agg [.int .i64 5, .int .i64 0, .int .i64 1, .int .i64 1, .int .i64 1, .int .i64 1, .int .i64 15], 4), (.int .i64 6, .agg [.int .i64 6, .int .i64 0, .int .i64 1, .int .i64 1, .int .i64 2, .int .i64 1, .int .i64 15], 5)] 6
def kn_b113_0 : O := .cells ⟨2, [.map (some 112), .int .i64 6], .nil, false, []⟩ 227
def kn_b114_0 : O := .map [(.agg [.int .i64 1, .int .i64 0], .int .i64 0, 0)] 1
def kn_b115_0 : O := .cells ⟨2561, [.bool false, .int .i64 0, .int .i64 0, .bool false, .bool false], (mkTr [(160, .bool true), (162, .int .i64 7), (2560, .map (some 114))]), false, []⟩ 185
def kn_b119_0 : O := .cells ⟨6, [.int .i64 1, .int .i64 0, .int .i64 0, .int .i64 2, .int .i64 4, .int .i64 1], .nil, false, []⟩ 139
def kn_b121_0 : O := .cells ⟨24, [.int .u8 5, .int .u8 16, .int .u8 1, .int .u8 0, .int .u8 5, .int .u8 32, .int .u8 3, .int .u8 0, .int .u8 3, .int .u8 0, .int .u8 2, .int .u8 0, .int .u8 5, .int .u8 16, .int .u8 1, .int .u8 0, .int .u8 3, .int .u8 0, .int .u8 2, .int .u8 0, .int .u8 2, .int .u8 0, .int .u8 0, .int .u8 0], .nil, false, []⟩ 5
def kn_b123_0 : O := .cells ⟨1, [.slice (some (121, 0)) 24 24 false], .nil, false, []⟩ 34
def kn_b124_0 : O := .cells ⟨36, [.int .u32 0], (mkTr [(0, .bool false), (18, .bool true)]), false, []⟩ 147
def kn_b125_0 : O := .cells ⟨2, [.slice (some (138, 0)) 3 3 false, .slice (some (149, 0)) 3 3 false], .nil, false, []⟩ 118
def kn_b126_0 : O := .cells ⟨13, [.ptr (some (103, 0)), .ptr (some (113, 0)), .ptr (some (115, 0)), .ptr (some (105, 0)), .ptr (some (111, 0)), .int .i64 4, .int .i64 8, .slice (some (119, 0)) 2 2 false, .slice (some (123, 0)) 1 1 false, .slice (some (124, 0)) 2 2 true, .slice (some (125, 0)) 2 2 true, .int .i64 0, .slice none 0 0 true], .nil, false, []⟩ 73
def kn_b138_0 : O := .cells ⟨3, [.int .i64 1, .int .i64 2, .int .i64 3], .nil, false, []⟩ 2
def kn_b149_0 : O := .cells ⟨3, [.int .i64 4, .int .i64 5, .int .i64 6], .nil, false, []⟩ 2
def kn_t1 : List (Nat × V) := [(0, .ptr (some (0, 0))), (1, .ptr (some (126, 0))), (2, .int .i64 0)]
def kn_h1 : List (Nat × O) := [(0, kn_b0_0), (72, kn_b72_0), (73, kn_b73_0), (74, kn_b74_0), (99, kn_b99_0), (101, kn_b101_0), (102, kn_b102_0), (103, kn_b103_0), (105, kn_b105_0), (106, kn_b106_0), (107, kn_b107_0), (109, kn_b109_0), (110, kn_b110_0), (111, kn_b111_0), (112, kn_b112_0), (113, kn_b113_0), (114, kn_b114_0), (115, kn_b115_0), (119, kn_b119_0), (121, kn_b121_0), (123, kn_b123_0), (124, kn_b124_0), (125, kn_b125_0), (126, kn_b126_0), (138, kn_b138_0), (149, kn_b149_0)]
theorem kn_e1 : runC Tryz.prog hk1 100000 80 (Code.sa (Code.sb (bodyOf Tryz.prog 6))) ⟨⟨145, mkTr kn_t0⟩, []⟩ (mkH 1 kn_h0) .norm 145 [] kn_t1 159 kn_h1 = true := by kernel_rfl
def kn_b182_0 : O := .cells ⟨256, [.int .u8 0], (mkTr [(0, .int .u8 5), (1, .int .u8 16), (2, .int .u8 1), (4, .int .u8 5), (5, .int .u8 32), (6, .int .u8 3), (8, .int .u8 3), (10, .int .u8 2), (12, .int .u8 5), (13, .int .u8 16), (14, .int .u8 1), (16, .int .u8 3), (18, .int .u8 2), (20, .int .u8 2)]), false, []⟩ 5
def kn_b184_0 : O := .cells ⟨3, [.int .i64 0, .int .i64 7, .slice (some (182, 0)) 256 256 false], .nil, false, []⟩ 36
def kn_b223_0 : O := .cells ⟨128, [.int .u8 0], .nil, false, []⟩ 277
def kn_b227_0 : O := .cells ⟨128, [.int .u8 0], .nil, false, []⟩ 277
def kn_b231_0 : O := .cells ⟨128, [.int .u8 0], .nil, false, []⟩ 277
def kn_b235_0 : O := .cells ⟨128, [.int .u8 0], .nil, false, []⟩ 277
def kn_b237_0 : O := .cells ⟨4, [.slice (some (223, 0)) 128 128 true, .slice (some (227, 0)) 128 128 true, .slice (some (231, 0)) 128 128 true, .slice (some (235, 0)) 128 128 true], .nil, false, []⟩ 34
def kn_b260_0 : O := .cells ⟨9, [.int .i64 0, .int .i64 15, .bool true], (mkTr [(3, .int .i64 1), (6, .int .i64 2)]), false, []⟩ 41
def kn_b268_0 : O := .cells ⟨26, ([.int .i64 1, .bool true] ++ List.replicate 17 (.int .u32 0) ++ [.slice (some (184, 0)) 1 1 false, .slice (some (237, 0)) 4 4 false, .slice none 0 0 true, .slice (some (260, 0)) 3 3 false, .int .i64 1, .slice none 0 0 true, .int .i64 0]), .nil, false, []⟩ 31
def kn_t2 : List (Nat × V) := [(0, .ptr (some (0, 0))), (1, .ptr (some (126, 0))), (2, .int .i64 0), (3, .ptr (some (268, 0))), (4, .int .i64 0)]
def kn_h2 : List (Nat × O) := [(0, kn_b0_0), (72, kn_b72_0), (73, kn_b73_0), (74, kn_b74_0), (99, kn_b99_0), (101, kn_b101_0), (102, kn_b102_0), (103, kn_b103_0), (105, kn_b105_0), (106, kn_b106_0), (107, kn_b107_0), (109, kn_b109_0), (110, kn_b110_0), (111, kn_b111_0), (112, kn_b112_0), (113, kn_b113_0), (114, kn_b114_0), (115, kn_b115_0), (119, kn_b119_0), (121, kn_b121_0), (123, kn_b123_0), (124, kn_b124_0), (125, kn_b125_0), (126, kn_b126_0), (138, kn_b138_0), (149, kn_b149_0), (182, kn_b182_0), (184, kn_b184_0), (223, kn_b223_0), (227, kn_b227_0), (231, kn_b231_0), (235, kn_b235_0), (237, kn_b237_0), (260, kn_b260_0), (268, kn_b268_0)]
theorem kn_e2 : runC Tryz.prog hk1 100000 80 (Code.sa (Code.sb (Code.sb (bodyOf Tryz.prog 6)))) ⟨⟨145, mkTr kn_t1⟩, []⟩ (mkH 159 kn_h1) .norm 145 [] kn_t2 269 kn_h2 = true := by kernel_rfl
def kn_t3 : List (Nat × V) := [(0, .ptr (some (0, 0))), (1, .ptr (some (126, 0))), (2, .int .i64 0), (3, .ptr (some (268, 0))), (4, .int .i64 0), (6, .int .i64 1)]
def kn_h3 : List (Nat × O) := [(0, kn_b0_0), (72, kn_b72_0), (73, kn_b73_0), (74, kn_b74_0), (99, kn_b99_0), (101, kn_b101_0), (102, kn_b102_0), (103, kn_b103_0), (105, kn_b105_0), (106, kn_b106_0), (107, kn_b107_0), (109, kn_b109_0), (110, kn_b110_0), (111, kn_b111_0), (112, kn_b112_0), (113, kn_b113_0), (114, kn_b114_0), (115, kn_b115_0), (119, kn_b119_0), (121, kn_b121_0), (123, kn_b123_0), (124, kn_b124_0), (125, kn_b125_0), (126, kn_b126_0), (138, kn_b138_0), (149, kn_b149_0), (182, kn_b182_0), (184, kn_b184_0), (223, kn_b223_0), (227, kn_b227_0), (231, kn_b231_0), (235, kn_b235_0), (237, kn_b237_0), (260, kn_b260_0), (268, kn_b268_0)]
theorem kn_e3 : runC Tryz.prog hk1 100000 80 (Code.sa (Code.sb (Code.sb (Code.sb (bodyOf Tryz.prog 6))))) ⟨⟨145, mkTr kn_t2⟩, []⟩ (mkH 269 kn_h2) .norm 145 [] kn_t3 275 kn_h3 = true := by kernel_rfl
def kn_t4 : List (Nat × V) := [(0, .ptr (some (0, 0))), (1, .ptr (some (126, 0))), (2, .int .i64 0), (3, .ptr (some (268, 0))), (4, .int .i64 0), (6, .int .i64 1), (8, .int .i64 2)]
def kn_h4 : List (Nat × O) := [(0, kn_b0_0), (72, kn_b72_0), (73, kn_b73_0), (74, kn_b74_0), (99, kn_b99_0), (101, kn_b101_0), (102, kn_b102_0), (103, kn_b103_0), (105, kn_b105_0), (106, kn_b106_0), (107, kn_b107_0), (109, kn_b109_0), (110, kn_b110_0), (111, kn_b111_0), (112, kn_b112_0), (113, kn_b113_0), (114, kn_b114_0), (115, kn_b115_0), (119, kn_b119_0), (121, kn_b121_0), (123, kn_b123_0), (124, kn_b124_0), (125, kn_b125_0), (126, kn_b126_0), (138, kn_b138_0), (149, kn_b149_0), (182, kn_b182_0), (184, kn_b184_0), (223, kn_b223_0), (227, kn_b227_0), (231, kn_b231_0), (235, kn_b235_0), (237, kn_b237_0), (260, kn_b260_0), (268, kn_b268_0)]
theorem kn_e4 : runC Tryz.prog hk1 100000 80 (Code.sa (Code.sb (Code.sb (Code.sb (Code.sb (bodyOf Tryz.prog 6)))))) ⟨⟨145, mkTr kn_t3⟩, []⟩ (mkH 275 kn_h3) .norm 145 [] kn_t4 289 kn_h4 = true := by kernel_rfl
def kn_t5 : List (Nat × V) := [(0, .ptr (some (0, 0))), (1, .ptr (some (126, 0))), (3, .ptr (some (268, 0))), (4, .int .i64 0)]
def kn_h5 : List (Nat × O) := [(0, kn_b0_0), (72, kn_b72_0), (73, kn_b73_0), (74, kn_b74_0), (99, kn_b99_0), (101, kn_b101_0), (102, kn_b102_0), (103, kn_b103_0), (105, kn_b105_0), (106, kn_b106_0), (107, kn_b107_0), (109, kn_b109_0), (110, kn_b110_0), (111, kn_b111_0), (112, kn_b112_0), (113, kn_b113_0), (114, kn_b114_0), (115, kn_b115_0), (119, kn_b119_0), (121, kn_b121_0), (123, kn_b123_0), (124, kn_b124_0), (125, kn_b125_0), (126, kn_b126_0), (138, kn_b138_0), (149, kn_b149_0), (182, kn_b182_0), (184, kn_b184_0), (223, kn_b223_0), (227, kn_b227_0), (231, kn_b231_0), (235, kn_b235_0), (237, kn_b237_0), (260, kn_b260_0), (268, kn_b268_0)]
theorem kn_e5 : runC Tryz.prog hk1 100000 80 (Code.sa (Code.sb (Code.sb (Code.sb (Code.sb (Code.sb (bodyOf Tryz.prog 6))))))) ⟨⟨145, mkTr kn_t4⟩, []⟩ (mkH 289 kn_h4) .norm 145 [] kn_t5 289 kn_h5 = true := by kernel_rfl
def kn_b99_1 : O := .cells ⟨1032, [.int .u8 0], (mkTr [(0, .int .i64 1), (1, .int .i64 0), (2, .int .u8 5), (3, .int .u8 16), (4, .int .u8 1), (6, .int .u8 5), (7, .int .u8 32), (8, .int .u8 3), (10, .int .u8 3), (12, .int .u8 2), (14, .int .u8 5), (15, .int .u8 16), (16, .int .u8 1), (18, .int .u8 3), (20, .int .u8 2), (22, .int .u8 2), (258, .int .i64 1), (259, .int .i64 0), (516, .int .i64 0), (517, .int .i64 0), (774, .int .i64 0), (775, .int .i64 0)]), false, []⟩ 192
def kn_b102_1 : O := .cells ⟨2, [.int .i64 0, .int .i64 0], .nil, false, []⟩ 3
def kn_b112_1 : O := .map [(.int .i64 1, .agg [.int .i64 1, .int .i64 0, .int .i64 0, .int .i64 0, .int .i64 0, .int .i64 0, .int .i64 15], 0), (.int .i64 2, .agg [.int .i64 2, .int .i64 0, .int .i64 0, .int .i64 0, .int .i64 1, .int .i64 0, .int .i64 15], 1), (.int .i64 3, .agg [.int .i64 3, .int .i64 0, .int .i64 0, .int .i64 0, .int .i64 2, .int .i64 0, .int .i64 15], 2)] 6
def kn_b114_1 : O := .map [] 2
def kn_b115_1 : O := .cells ⟨2561, [.bool false, .int .i64 0, .int .i64 0, .bool false, .bool false], (mkTr [(2560, .map (some 114))]), false, []⟩ 185
def kn_b124_1 : O := .cells ⟨36, [.int .u32 0], (mkTr [(0, .bool false), (18, .bool false)]), false, []⟩ 147
def kn_b126_1 : O := .cells ⟨13, [.ptr (some (103, 0)), .ptr (some (113, 0)), .ptr (some (115, 0)), .ptr (some (105, 0)), .ptr (some (111, 0)), .int .i64 4, .int .i64 8, .slice (some (119, 0)) 2 2 false, .slice (some (123, 0)) 1 1 false, .slice (some (124, 0)) 2 2 true, .slice (some (125, 0)) 2 2 true, .int .i64 1, .slice none 0 0 true], .nil, false, []⟩ 73
def kn_t6 : List (Nat × V) := [(0, .ptr (some (0, 0))), (1, .ptr (some (126, 0))), (3, .ptr (some (268, 0))), (4, .int .i64 0)]
def kn_h6 : List (Nat × O) := [(0, kn_b0_0), (72, kn_b72_0), (73, kn_b73_0), (74, kn_b74_0), (99, kn_b99_1), (101, kn_b101_0), (102, kn_b102_1), (103, kn_b103_0), (105, kn_b105_0), (106, kn_b106_0), (107, kn_b107_0), (109, kn_b109_0), (110, kn_b110_0), (111, kn_b111_0), (112, kn_b112_1), (113, kn_b113_0), (114, kn_b114_1), (115, kn_b115_1), (119, kn_b119_0), (121, kn_b121_0), (123, kn_b123_0), (124, kn_b124_1), (125, kn_b125_0), (126, kn_b126_1), (138, kn_b138_0), (149, kn_b149_0), (182, kn_b182_0), (184, kn_b184_0), (223, kn_b223_0), (227, kn_b227_0), (231, kn_b231_0), (235, kn_b235_0), (237, kn_b237_0), (260, kn_b260_0), (268, kn_b268_0)]
theorem kn_e6 : runC Tryz.prog hk1 100000 80 (Code.sa (Code.sb (Code.sb (Code.sb (Code.sb (Code.sb (Code.sb (bodyOf Tryz.prog 6)))))))) ⟨⟨145, mkTr kn_t5⟩, []⟩ (mkH 289 kn_h5) .norm 145 [] kn_t6 1002 kn_h6 = true := by kernel_rfl
def kn_b1061_0 : O := .cells ⟨128, [.int .u8 0], .nil, false, []⟩ 277
def kn_b1065_0 : O := .cells ⟨128, [.int .u8 0], .nil, false, []⟩ 277
def kn_b1069_0 : O := .cells ⟨128, [.int .u8 0], .nil, false, []⟩ 277
def kn_b1073_0 : O := .cells ⟨128, [.int .u8 0], .nil, false, []⟩ 277
def kn_b1075_0 : O := .cells ⟨4, [.slice (some (1061, 0)) 128 128 true, .slice (some (1065, 0)) 128 128 true, .slice (some (1069, 0)) 128 128 true, .slice (some (1073, 0)) 128 128 true], .nil, false, []⟩ 34
def kn_b1098_0 : O := .cells ⟨9, [.int .i64 0, .int .i64 0, .bool false], .nil, false, []⟩ 41
def kn_b1106_0 : O := .cells ⟨26, ([.int .i64 1, .bool false] ++ List.replicate 17 (.int .u32 0) ++ [.slice none 0 0 true, .slice (some (1075, 0)) 4 4 false, .slice none 0 0 true, .slice (some (1098, 0)) 3 3 false, .int .i64 0, .slice none 0 0 true, .int .i64 1]), .nil, false, []⟩ 31
def kn_t7 : List (Nat × V) := [(0, .ptr (some (0, 0))), (3, .ptr (some (268, 0))), (4, .int .i64 0), (9, .ptr (some (1106, 0)))]
def kn_h7 : List (Nat × O) := [(0, kn_b0_0), (182, kn_b182_0), (184, kn_b184_0), (223, kn_b223_0), (227, kn_b227_0), (231, kn_b231_0), (235, kn_b235_0), (237, kn_b237_0), (260, kn_b260_0), (268, kn_b268_0), (1061, kn_b1061_0), (1065, kn_b1065_0), (1069, kn_b1069_0), (1073, kn_b1073_0), (1075, kn_b1075_0), (1098, kn_b1098_0), (1106, kn_b1106_0)]
theorem kn_e7 : runC Tryz.prog hk1 100000 80 (Code.sa (Code.sb (Code.sb (Code.sb (Code.sb (Code.sb (Code.sb (Code.sb (bodyOf Tryz.prog 6))))))))) ⟨⟨145, mkTr kn_t6⟩, []⟩ (mkH 1002 kn_h6) .norm 145 [] kn_t7 1107 kn_h7 = true := by kernel_rfl
def kn_b1107_0 : O := .cells ⟨5, [.int .i64 1, .int .i64 2, .int .i64 5, .int .i64 6, .int .i64 8], .nil, false, []⟩ 45
def kn_b1108_0 : O := .cells ⟨1, [.slice (some (1107, 0)) 5 5 true], .nil, false, []⟩ 82
def kn_t8 : List (Nat × V) := [(0, .ptr (some (0, 0))), (3, .ptr (some (268, 0))), (4, .int .i64 0), (9, .ptr (some (1106, 0))), (11, .ptr (some (1108, 0)))]
def kn_h8 : List (Nat × O) := [(0, kn_b0_0), (182, kn_b182_0), (184, kn_b184_0), (223, kn_b223_0), (227, kn_b227_0), (231, kn_b231_0), (235, kn_b235_0), (237, kn_b237_0), (260, kn_b260_0), (268, kn_b268_0), (1061, kn_b1061_0), (1065, kn_b1065_0), (1069, kn_b1069_0), (1073, kn_b1073_0), (1075, kn_b1075_0), (1098, kn_b1098_0), (1106, kn_b1106_0), (1107, kn_b1107_0), (1108, kn_b1108_0)]
theorem kn_e8 : runC Tryz.prog hk1 100000 80 (Code.sa (Code.sb (Code.sb (Code.sb (Code.sb (Code.sb (Code.sb (Code.sb (Code.sb (bodyOf Tryz.prog 6)))))))))) ⟨⟨145, mkTr kn_t7⟩, []⟩ (mkH 1107 kn_h7) .norm 145 [] kn_t8 1109 kn_h8 = true := by kernel_rfl
def kn_b1109_0 : O := .cells ⟨1, [.int .i64 0], .nil, false, []⟩ 3
def kn_t9 : List (Nat × V) := [(0, .ptr (some (0, 0))), (3, .ptr (some (268, 0))), (4, .int .i64 0), (9, .ptr (some (1106, 0))), (11, .ptr (some (1108, 0))), (12, .ptr (some (1109, 0)))]
def kn_h9 : List (Nat × O) := [(0, kn_b0_0), (182, kn_b182_0), (184, kn_b184_0), (223, kn_b223_0), (227, kn_b227_0), (231, kn_b231_0), (235, kn_b235_0), (237, kn_b237_0), (260, kn_b260_0), (268, kn_b268_0), (1061, kn_b1061_0), (1065, kn_b1065_0), (1069, kn_b1069_0), (1073, kn_b1073_0), (1075, kn_b1075_0), (1098, kn_b1098_0), (1106, kn_b1106_0), (1107, kn_b1107_0), (1108, kn_b1108_0), (1109, kn_b1109_0)]
theorem kn_e9 : runC Tryz.prog hk1 100000 80 (Code.sa (Code.sb (Code.sb (Code.sb (Code.sb (Code.sb (Code.sb (Code.sb (Code.sb (Code.sb (bodyOf Tryz.prog 6))))))))))) ⟨⟨145, mkTr kn_t8⟩, []⟩ (mkH 1109 kn_h8) .norm 145 [] kn_t9 1110 kn_h9 = true := by kernel_rfl
def kn_b1112_0 : O := .cells ⟨1, [.slice (some (1148, 0)) 5 5 false], .nil, false, []⟩ 82
def kn_b1148_0 : O := .cells ⟨5, [.int .i64 1, .int .i64 2, .int .i64 5, .int .i64 6, .int .i64 8], .nil, false, []⟩ 45
def kn_t10 : List (Nat × V) := [(0, .ptr (some (0, 0))), (3, .ptr (some (268, 0))), (4, .int .i64 0), (9, .ptr (some (1106, 0))), (11, .ptr (some (1108, 0))), (12, .ptr (some (1109, 0))), (13, .func 16 [] [.ptr (some (1112, 0))])]
def kn_h10 : List (Nat × O) := [(0, kn_b0_0), (182, kn_b182_0), (184, kn_b184_0), (223, kn_b223_0), (227, kn_b227_0), (231, kn_b231_0), (235, kn_b235_0), (237, kn_b237_0), (260, kn_b260_0), (268, kn_b268_0), (1061, kn_b1061_0), (1065, kn_b1065_0), (1069, kn_b1069_0), (1073, kn_b1073_0), (1075, kn_b1075_0), (1098, kn_b1098_0), (1106, kn_b1106_0), (1107, kn_b1107_0), (1108, kn_b1108_0), (1109, kn_b1109_0), (1112, kn_b1112_0), (1148, kn_b1148_0)]
theorem kn_e10 : runC Tryz.prog hk1 100000 80 (Code.sa (Code.sb (Code.sb (Code.sb (Code.sb (Code.sb (Code.sb (Code.sb (Code.sb (Code.sb (Code.sb (bodyOf Tryz.prog 6)))))))))))) ⟨⟨145, mkTr kn_t9⟩, []⟩ (mkH 1110 kn_h9) .norm 145 [] kn_t10 1149 kn_h10 = true := by kernel_rfl
def kn_t11 : List (Nat × V) := [(0, .ptr (some (0, 0))), (3, .ptr (some (268, 0))), (4, .int .i64 0), (9, .ptr (some (1106, 0))), (11, .ptr (some (1108, 0))), (12, .ptr (some (1109, 0))), (13, .func 16 [] [.ptr (some (1112, 0))])]
def kn_h11 : List (Nat × O) := [(0, kn_b0_0), (182, kn_b182_0), (184, kn_b184_0), (223, kn_b223_0), (227, kn_b227_0), (231, kn_b231_0), (235, kn_b235_0), (237, kn_b237_0), (260, kn_b260_0), (268, kn_b268_0), (1061, kn_b1061_0), (1065, kn_b1065_0), (1069, kn_b1069_0), (1073, kn_b1073_0), (1075, kn_b1075_0), (1098, kn_b1098_0), (1106, kn_b1106_0), (1107, kn_b1107_0), (1108, kn_b1108_0), (1109, kn_b1109_0), (1112, kn_b1112_0), (1148, kn_b1148_0)]
theorem kn_e11 : runC Tryz.prog hk1 100000 80 (Code.sa (Code.sb (Code.sb (Code.sb (Code.sb (Code.sb (Code.sb (Code.sb (Code.sb (Code.sb (Code.sb (Code.sb (bodyOf Tryz.prog 6))))))))))))) ⟨⟨145, mkTr kn_t10⟩, []⟩ (mkH 1149 kn_h10) .norm 145 [] kn_t11 1149 kn_h11 = true := by kernel_rfl
def kn_b1109_1 : O := .cells ⟨1, [.int .i64 5], .nil, false, []⟩ 3
def kn_b1149_0 : O := .deferred true
def kn_t12 : List (Nat × V) := [(0, .ptr (some (0, 0))), (3, .ptr (some (268, 0))), (4, .int .i64 0), (9, .ptr (some (1106, 0))), (11, .ptr (some (1108, 0))), (12, .ptr (some (1109, 0)))]
def kn_h12 : List (Nat × O) := [(0, kn_b0_0), (182, kn_b182_0), (184, kn_b184_0), (223, kn_b223_0), (227, kn_b227_0), (231, kn_b231_0), (235, kn_b235_0), (237, kn_b237_0), (260, kn_b260_0), (268, kn_b268_0), (1061, kn_b1061_0), (1065, kn_b1065_0), (1069, kn_b1069_0), (1073, kn_b1073_0), (1075, kn_b1075_0), (1098, kn_b1098_0), (1106, kn_b1106_0), (1107, kn_b1107_0), (1108, kn_b1108_0), (1109, kn_b1109_1), (1149, kn_b1149_0)]
theorem kn_e12 : runC Tryz.prog hk1 100000 80 (Code.sa (Code.sb (Code.sb (Code.sb (Code.sb (Code.sb (Code.sb (Code.sb (Code.sb (Code.sb (Code.sb (Code.sb (Code.sb (bodyOf Tryz.prog 6)))))))))))))) ⟨⟨145, mkTr kn_t11⟩, []⟩ (mkH 1149 kn_h11) .norm 145 [1149] kn_t12 1155 kn_h12 = true := by kernel_rfl
def kn_b0_1 : O := .cells ⟨1, [.bool true], .nil, false, []⟩ 4
def kn_t13 : List (Nat × V) := [(0, .ptr (some (0, 0))), (4, .int .i64 0)]
def kn_h13 : List (Nat × O) := [(0, kn_b0_1), (1149, kn_b1149_0)]
theorem kn_e13 : runC Tryz.prog hk1 100000 80 (Code.sa (Code.sb (Code.sb (Code.sb (Code.sb (Code.sb (Code.sb (Code.sb (Code.sb (Code.sb (Code.sb (Code.sb (Code.sb (Code.sb (bodyOf Tryz.prog 6))))))))))))))) ⟨⟨145, mkTr kn_t12⟩, [1149]⟩ (mkH 1155 kn_h12) .norm 145 [1149] kn_t13 1245 kn_h13 = true := by kernel_rfl
def kn_t14 : List (Nat × V) := [(0, .ptr (some (0, 0))), (4, .int .i64 0)]
def kn_h14 : List (Nat × O) := [(0, kn_b0_1), (1149, kn_b1149_0)]
theorem kn_e14 : runC Tryz.prog hk1 100000 80 (Code.sb (Code.sb (Code.sb (Code.sb (Code.sb (Code.sb (Code.sb (Code.sb (Code.sb (Code.sb (Code.sb (Code.sb (Code.sb (Code.sb (bodyOf Tryz.prog 6))))))))))))))) ⟨⟨145, mkTr kn_t13⟩, [1149]⟩ (mkH 1245 kn_h13) .ret 145 [1149] kn_t14 1245 kn_h14 = true := by kernel_rfl
theorem kn_code : CodeOk Tryz.prog none (bodyOf Tryz.prog 6) ⟨⟨145, .nil⟩, []⟩ ⟨0, .nil⟩ .ret ⟨⟨145, mkTr kn_t14⟩, [1149]⟩ (mkH 1245 kn_h14) All All := CodeOk.cut (by kernel_rfl) (CodeOk.part hm hk1_ok kn_e0) (CodeOk.cut (by kernel_rfl) (CodeOk.part hm hk1_ok kn_e1) (CodeOk.cut (by kernel_rfl) (CodeOk.part hm hk1_ok kn_e2) (CodeOk.cut (by kernel_rfl) (CodeOk.part hm hk1_ok kn_e3) (CodeOk.cut (by kernel_rfl) (CodeOk.part hm hk1_ok kn_e4) (CodeOk.cut (by kernel_rfl) (CodeOk.part hm hk1_ok kn_e5) (CodeOk.cut (by kernel_rfl) (CodeOk.part hm hk1_ok kn_e6) (CodeOk.cut (by kernel_rfl) (CodeOk.part hm hk1_ok kn_e7) (CodeOk.cut (by kernel_rfl) (CodeOk.part hm hk1_ok kn_e8) (CodeOk.cut (by kernel_rfl) (CodeOk.part hm hk1_ok kn_e9) (CodeOk.cut (by kernel_rfl) (CodeOk.part hm hk1_ok kn_e10) (CodeOk.cut (by kernel_rfl) (CodeOk.part hm hk1_ok kn_e11) (CodeOk.cut (by kernel_rfl) (CodeOk.part hm hk1_ok kn_e12) (CodeOk.cut (by kernel_rfl) (CodeOk.part hm hk1_ok kn_e13) (CodeOk.part hm hk1_ok kn_e14))))))))))))))
theorem kn_ok : ∃ h2, FnOk Tryz.prog 6 [] ⟨0, .nil⟩ (.bool true) h2 (fun _ => True) (fun _ => True) :=
  ⟨_, FnOk.ofCode (fn := Tryz.f6) (c := bodyOf Tryz.prog 6) (args := []) (e := .ret) (f1 := ⟨⟨145, mkTr kn_t14⟩, [1149]⟩) (vs := [.bool true]) (rs := [0]) Tryz.func6 (by kernel_rfl) kn_code (fun _ h => by cases h) rfl (by kernel_rfl)⟩
def hkK : Hook := hkOr (hkTrue 6) hk1
theorem hkK_ok : HookOk Tryz.prog hkK := by
  obtain ⟨_, h⟩ := kn_ok
  exact hkOr_ok (hkTrue_fn h) hk1_ok
end Go.Proofs.YtghhpinkhdiocaaGreat
