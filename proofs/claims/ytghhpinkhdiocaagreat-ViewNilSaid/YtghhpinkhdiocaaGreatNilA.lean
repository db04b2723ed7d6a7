/- ViewNil, run in parts. -/
import Derived.Test.YtghhpinkhdiocaaGreatKn
set_option linter.unusedVariables false
set_option linter.unusedSimpArgs false
set_option linter.unusedSimpArgs false
set_option maxRecDepth 1000000
namespace Go.Proofs.YtghhpinkhdiocaaGreat
open Go Go.Vm

def vn_b0_0 : O := .cells ⟨1, [.bool false], .nil, false, []⟩ 4
def vn_t0 : List (Nat × V) := [(0, .ptr (some (0, 0)))]
def vn_h0 : List (Nat × O) := [(0, vn_b0_0)]
theorem vn_e0 : runC Tryz.prog hkK 100000 80 (Code.sa (bodyOf Tryz.prog 5)) ⟨⟨101, .nil⟩, []⟩ (⟨0, .nil⟩) .norm 101 [] vn_t0 1 vn_h0 = true := by kernel_rfl
def vn_t1 : List (Nat × V) := [(0, .ptr (some (0, 0))), (2, .int .i64 1)]
def vn_h1 : List (Nat × O) := [(0, vn_b0_0)]
theorem vn_e1 : runC Tryz.prog hkK 100000 80 (Code.sa (Code.sb (bodyOf Tryz.prog 5))) ⟨⟨101, mkTr vn_t0⟩, []⟩ (mkH 1 vn_h0) .norm 101 [] vn_t1 7 vn_h1 = true := by kernel_rfl
def vn_b78_0 : O := .cells ⟨1024, [.int .u8 0], .nil, false, []⟩ 277
def vn_b79_0 : O := .map [] 0
def vn_b80_0 : O := .cells ⟨3, [.slice (some (78, 0)) 8 8 true, .map (some 79), .int .i64 0], .nil, false, []⟩ 234
def vn_b105_0 : O := .cells ⟨1032, [.int .u8 0], (mkTr [(0, .int .i64 1), (1, .int .i64 1), (2, .int .u8 5), (3, .int .u8 16), (4, .int .u8 1), (6, .int .u8 5), (7, .int .u8 32), (8, .int .u8 3), (10, .int .u8 3), (12, .int .u8 2), (14, .int .u8 5), (15, .int .u8 16), (16, .int .u8 1), (18, .int .u8 3), (20, .int .u8 2), (22, .int .u8 2), (258, .int .i64 0), (259, .int .i64 0), (516, .int .i64 0), (517, .int .i64 0), (774, .int .i64 0), (775, .int .i64 0)]), false, []⟩ 192
def vn_b107_0 : O := .cells ⟨2, [.int .i64 1, .int .i64 2], .nil, false, []⟩ 3
def vn_b108_0 : O := .cells ⟨2, [.int .i64 0, .int .i64 1], .nil, false, []⟩ 3
def vn_b109_0 : O := .cells ⟨3, [.slice (some (105, 0)) 4 4 true, .slice (some (107, 0)) 2 2 false, .slice (some (108, 0)) 2 2 true], .nil, false, []⟩ 176
def vn_b111_0 : O := .cells ⟨26, [.slice none 0 0 true, .int .i64 0, .int .i64 0], (mkTr [(0, .ptr (some (80, 0))), (3, .slice (some (112, 0)) 1 1 true), (5, .int .i64 4), (6, .slice (some (113, 0)) 1 1 true), (25, .int .i64 2)]), false, []⟩ 204
def vn_b112_0 : O := .cells ⟨1, [.int .u64 0], .nil, false, []⟩ 273
def vn_b113_0 : O := .cells ⟨1, [.int .u64 15], .nil, false, []⟩ 273
def vn_b115_0 : O := .cells ⟨2, [.int .i64 0, .int .i64 1], .nil, false, []⟩ 3
def vn_b116_0 : O := .map [] 0
def vn_b117_0 : O := .cells ⟨2, [.slice (some (115, 0)) 2 2 false, .map (some 116)], .nil, false, []⟩ 213
def vn_b118_0 : O := .map [(.int .i64 1, .agg [.int .i64 1, .int .i64 0, .int .i64 0, .int .i64 0, .int .i64 0, .int .i64 0, .int .i64 15], 0), (.int .i64 2, .agg [.int .i64 2, .int .i64 0, .int .i64 0, .int .i64 0, .int .i64 1, .int .i64 0, .int .i64 15], 1), (.int .i64 3, .agg [.int .i64 3, .int .i64 0, .int .i64 0, .int .i64 0, .int .i64 2, .int .i64 0, .int .i64 15], 2), (.int .i64 4, .agg [.int .i64 4, .int .i64 0, .int .i64 1, .int .i64 1, .int .i64 0, .int .i64 1, .int .i64 15], 3), (.int .i64 5, .agg [.int .i64 5, .int .i64 0, .int .i64 1, .int .i64 1, .int .i64 1, .int .i64 1, .int .i64 15], 4), (.int .i64 6, .agg [.int .i64 6, .int .i64 0, .int .i64 1, .int .i64 1, .int .i64 2, .int .i64 1, .int .i64 15], 5)] 6
def vn_b119_0 : O := .cells ⟨2, [.map (some 118), .int .i64 6], .nil, false, []⟩ 227
def vn_b120_0 : O := .map [(.agg [.int .i64 1, .int .i64 0], .int .i64 0, 0)] 1
def vn_b121_0 : O := .cells ⟨2561, [.bool false, .int .i64 0, .int .i64 0, .bool false, .bool false], (mkTr [(160, .bool true), (162, .int .i64 7), (2560, .map (some 120))]), false, []⟩ 185
def vn_b125_0 : O := .cells ⟨6, [.int .i64 1, .int .i64 0, .int .i64 0, .int .i64 2, .int .i64 4, .int .i64 1], .nil, false, []⟩ 139
def vn_b127_0 : O := .cells ⟨24, [.int .u8 5, .int .u8 16, .int .u8 1, .int .u8 0, .int .u8 5, .int .u8 32, .int .u8 3, .int .u8 0, .int .u8 3, .int .u8 0, .int .u8 2, .int .u8 0, .int .u8 5, .int .u8 16, .int .u8 1, .int .u8 0, .int .u8 3, .int .u8 0, .int .u8 2, .int .u8 0, .int .u8 2, .int .u8 0, .int .u8 0, .int .u8 0], .nil, false, []⟩ 5
def vn_b129_0 : O := .cells ⟨1, [.slice (some (127, 0)) 24 24 false], .nil, false, []⟩ 34
def vn_b130_0 : O := .cells ⟨36, [.int .u32 0], (mkTr [(0, .bool false), (18, .bool true)]), false, []⟩ 147
def vn_b131_0 : O := .cells ⟨2, [.slice (some (144, 0)) 3 3 false, .slice (some (155, 0)) 3 3 false], .nil, false, []⟩ 118
def vn_b132_0 : O := .cells ⟨13, [.ptr (some (109, 0)), .ptr (some (119, 0)), .ptr (some (121, 0)), .ptr (some (111, 0)), .ptr (some (117, 0)), .int .i64 4, .int .i64 8, .slice (some (125, 0)) 2 2 false, .slice (some (129, 0)) 1 1 false, .slice (some (130, 0)) 2 2 true, .slice (some (131, 0)) 2 2 true, .int .i64 0, .slice none 0 0 true], .nil, false, []⟩ 73
def vn_b144_0 : O := .cells ⟨3, [.int .i64 1, .int .i64 2, .int .i64 3], .nil, false, []⟩ 2
def vn_b155_0 : O := .cells ⟨3, [.int .i64 4, .int .i64 5, .int .i64 6], .nil, false, []⟩ 2
def vn_t2 : List (Nat × V) := [(0, .ptr (some (0, 0))), (2, .int .i64 1), (3, .ptr (some (132, 0))), (4, .int .i64 0)]
def vn_h2 : List (Nat × O) := [(0, vn_b0_0), (78, vn_b78_0), (79, vn_b79_0), (80, vn_b80_0), (105, vn_b105_0), (107, vn_b107_0), (108, vn_b108_0), (109, vn_b109_0), (111, vn_b111_0), (112, vn_b112_0), (113, vn_b113_0), (115, vn_b115_0), (116, vn_b116_0), (117, vn_b117_0), (118, vn_b118_0), (119, vn_b119_0), (120, vn_b120_0), (121, vn_b121_0), (125, vn_b125_0), (127, vn_b127_0), (129, vn_b129_0), (130, vn_b130_0), (131, vn_b131_0), (132, vn_b132_0), (144, vn_b144_0), (155, vn_b155_0)]
theorem vn_e2 : runC Tryz.prog hkK 100000 80 (Code.sa (Code.sb (Code.sb (bodyOf Tryz.prog 5)))) ⟨⟨101, mkTr vn_t1⟩, []⟩ (mkH 7 vn_h1) .norm 101 [] vn_t2 165 vn_h2 = true := by kernel_rfl
def vn_t3 : List (Nat × V) := [(0, .ptr (some (0, 0))), (2, .int .i64 1), (3, .ptr (some (132, 0))), (4, .int .i64 0), (6, .bool false), (7, .int .i64 1)]
def vn_h3 : List (Nat × O) := [(0, vn_b0_0), (78, vn_b78_0), (79, vn_b79_0), (80, vn_b80_0), (105, vn_b105_0), (107, vn_b107_0), (108, vn_b108_0), (109, vn_b109_0), (111, vn_b111_0), (112, vn_b112_0), (113, vn_b113_0), (115, vn_b115_0), (116, vn_b116_0), (117, vn_b117_0), (118, vn_b118_0), (119, vn_b119_0), (120, vn_b120_0), (121, vn_b121_0), (125, vn_b125_0), (127, vn_b127_0), (129, vn_b129_0), (130, vn_b130_0), (131, vn_b131_0), (132, vn_b132_0), (144, vn_b144_0), (155, vn_b155_0)]
theorem vn_e3 : runC Tryz.prog hkK 100000 80 (Code.sa (Code.sb (Code.sb (Code.sb (bodyOf Tryz.prog 5))))) ⟨⟨101, mkTr vn_t2⟩, []⟩ (mkH 165 vn_h2) .norm 101 [] vn_t3 224 vn_h3 = true := by kernel_rfl
def vn_t4 : List (Nat × V) := [(0, .ptr (some (0, 0))), (2, .int .i64 1), (3, .ptr (some (132, 0))), (4, .int .i64 0), (6, .bool false), (7, .int .i64 1), (9, .bool false), (10, .int .i64 1)]
def vn_h4 : List (Nat × O) := [(0, vn_b0_0), (78, vn_b78_0), (79, vn_b79_0), (80, vn_b80_0), (105, vn_b105_0), (107, vn_b107_0), (108, vn_b108_0), (109, vn_b109_0), (111, vn_b111_0), (112, vn_b112_0), (113, vn_b113_0), (115, vn_b115_0), (116, vn_b116_0), (117, vn_b117_0), (118, vn_b118_0), (119, vn_b119_0), (120, vn_b120_0), (121, vn_b121_0), (125, vn_b125_0), (127, vn_b127_0), (129, vn_b129_0), (130, vn_b130_0), (131, vn_b131_0), (132, vn_b132_0), (144, vn_b144_0), (155, vn_b155_0)]
theorem vn_e4 : runC Tryz.prog hkK 100000 80 (Code.sa (Code.sb (Code.sb (Code.sb (Code.sb (bodyOf Tryz.prog 5)))))) ⟨⟨101, mkTr vn_t3⟩, []⟩ (mkH 224 vn_h3) .norm 101 [] vn_t4 284 vn_h4 = true := by kernel_rfl
def vn_t5 : List (Nat × V) := [(0, .ptr (some (0, 0))), (2, .int .i64 1), (3, .ptr (some (132, 0))), (4, .int .i64 0), (6, .bool false), (7, .int .i64 1), (9, .bool false), (10, .int .i64 1), (12, .bool false), (13, .int .i64 2)]
def vn_h5 : List (Nat × O) := [(0, vn_b0_0), (78, vn_b78_0), (79, vn_b79_0), (80, vn_b80_0), (105, vn_b105_0), (107, vn_b107_0), (108, vn_b108_0), (109, vn_b109_0), (111, vn_b111_0), (112, vn_b112_0), (113, vn_b113_0), (115, vn_b115_0), (116, vn_b116_0), (117, vn_b117_0), (118, vn_b118_0), (119, vn_b119_0), (120, vn_b120_0), (121, vn_b121_0), (125, vn_b125_0), (127, vn_b127_0), (129, vn_b129_0), (130, vn_b130_0), (131, vn_b131_0), (132, vn_b132_0), (144, vn_b144_0), (155, vn_b155_0)]
theorem vn_e5 : runC Tryz.prog hkK 100000 80 (Code.sa (Code.sb (Code.sb (Code.sb (Code.sb (Code.sb (bodyOf Tryz.prog 5))))))) ⟨⟨101, mkTr vn_t4⟩, []⟩ (mkH 284 vn_h4) .norm 101 [] vn_t5 315 vn_h5 = true := by kernel_rfl
def vn_t6 : List (Nat × V) := [(0, .ptr (some (0, 0))), (2, .int .i64 1), (4, .int .i64 0), (6, .bool false), (7, .int .i64 1), (9, .bool false), (10, .int .i64 1), (12, .bool false), (13, .int .i64 2), (14, .int .i64 0), (15, .bool false), (16, .int .i64 0)]
def vn_h6 : List (Nat × O) := [(0, vn_b0_0)]
theorem vn_e6 : runC Tryz.prog hkK 100000 80 (Code.sa (Code.sb (Code.sb (Code.sb (Code.sb (Code.sb (Code.sb (bodyOf Tryz.prog 5)))))))) ⟨⟨101, mkTr vn_t5⟩, []⟩ (mkH 315 vn_h5) .norm 101 [] vn_t6 577 vn_h6 = true := by kernel_rfl
def vn_b577_0 : O := .cells ⟨1, [.slice none 0 0 true], .nil, false, []⟩ 141
def vn_t7 : List (Nat × V) := [(0, .ptr (some (0, 0))), (2, .int .i64 1), (4, .int .i64 0), (6, .bool false), (7, .int .i64 1), (9, .bool false), (10, .int .i64 1), (12, .bool false), (13, .int .i64 2), (14, .int .i64 0), (15, .bool false), (16, .int .i64 0), (17, .func 41 [] [.ptr (some (577, 0))])]
def vn_h7 : List (Nat × O) := [(0, vn_b0_0), (577, vn_b577_0)]
theorem vn_e7 : runC Tryz.prog hkK 100000 80 (Code.sa (Code.sb (Code.sb (Code.sb (Code.sb (Code.sb (Code.sb (Code.sb (bodyOf Tryz.prog 5))))))))) ⟨⟨101, mkTr vn_t6⟩, []⟩ (mkH 577 vn_h6) .norm 101 [] vn_t7 579 vn_h7 = true := by kernel_rfl
def vn_t8 : List (Nat × V) := [(0, .ptr (some (0, 0))), (2, .int .i64 1), (4, .int .i64 0), (6, .bool false), (7, .int .i64 1), (9, .bool false), (10, .int .i64 1), (12, .bool false), (13, .int .i64 2), (14, .int .i64 0), (15, .bool false), (16, .int .i64 0), (17, .func 41 [] [.ptr (some (577, 0))])]
def vn_h8 : List (Nat × O) := [(0, vn_b0_0), (577, vn_b577_0)]
theorem vn_e8 : runC Tryz.prog hkK 100000 80 (Code.sa (Code.sb (Code.sb (Code.sb (Code.sb (Code.sb (Code.sb (Code.sb (Code.sb (bodyOf Tryz.prog 5)))))))))) ⟨⟨101, mkTr vn_t7⟩, []⟩ (mkH 579 vn_h7) .norm 101 [] vn_t8 579 vn_h8 = true := by kernel_rfl
def vn_b579_0 : O := .deferred true
def vn_t9 : List (Nat × V) := [(0, .ptr (some (0, 0))), (2, .int .i64 1), (4, .int .i64 0), (6, .bool false), (7, .int .i64 1), (9, .bool false), (10, .int .i64 1), (12, .bool false), (13, .int .i64 2), (14, .int .i64 0), (15, .bool false), (16, .int .i64 0)]
def vn_h9 : List (Nat × O) := [(0, vn_b0_0), (579, vn_b579_0)]
theorem vn_e9 : runC Tryz.prog hkK 100000 80 (Code.sa (Code.sb (Code.sb (Code.sb (Code.sb (Code.sb (Code.sb (Code.sb (Code.sb (Code.sb (bodyOf Tryz.prog 5))))))))))) ⟨⟨101, mkTr vn_t8⟩, []⟩ (mkH 579 vn_h8) .norm 101 [579] vn_t9 581 vn_h9 = true := by kernel_rfl
def vn_b0_1 : O := .cells ⟨1, [.bool true], .nil, false, []⟩ 4
def vn_t10 : List (Nat × V) := [(0, .ptr (some (0, 0))), (4, .int .i64 0)]
def vn_h10 : List (Nat × O) := [(0, vn_b0_1), (579, vn_b579_0)]
theorem vn_e10 : runC Tryz.prog hkK 100000 80 (Code.sa (Code.sb (Code.sb (Code.sb (Code.sb (Code.sb (Code.sb (Code.sb (Code.sb (Code.sb (Code.sb (bodyOf Tryz.prog 5)))))))))))) ⟨⟨101, mkTr vn_t9⟩, [579]⟩ (mkH 581 vn_h9) .norm 101 [579] vn_t10 581 vn_h10 = true := by kernel_rfl
def vn_t11 : List (Nat × V) := [(0, .ptr (some (0, 0))), (4, .int .i64 0)]
def vn_h11 : List (Nat × O) := [(0, vn_b0_1), (579, vn_b579_0)]
theorem vn_e11 : runC Tryz.prog hkK 100000 80 (Code.sb (Code.sb (Code.sb (Code.sb (Code.sb (Code.sb (Code.sb (Code.sb (Code.sb (Code.sb (Code.sb (bodyOf Tryz.prog 5)))))))))))) ⟨⟨101, mkTr vn_t10⟩, [579]⟩ (mkH 581 vn_h10) .ret 101 [579] vn_t11 581 vn_h11 = true := by kernel_rfl
theorem vn_code : CodeOk Tryz.prog none (bodyOf Tryz.prog 5) ⟨⟨101, .nil⟩, []⟩ ⟨0, .nil⟩ .ret ⟨⟨101, mkTr vn_t11⟩, [579]⟩ (mkH 581 vn_h11) All All := CodeOk.cut (by kernel_rfl) (CodeOk.part hm hkK_ok vn_e0) (CodeOk.cut (by kernel_rfl) (CodeOk.part hm hkK_ok vn_e1) (CodeOk.cut (by kernel_rfl) (CodeOk.part hm hkK_ok vn_e2) (CodeOk.cut (by kernel_rfl) (CodeOk.part hm hkK_ok vn_e3) (CodeOk.cut (by kernel_rfl) (CodeOk.part hm hkK_ok vn_e4) (CodeOk.cut (by kernel_rfl) (CodeOk.part hm hkK_ok vn_e5) (CodeOk.cut (by kernel_rfl) (CodeOk.part hm hkK_ok vn_e6) (CodeOk.cut (by kernel_rfl) (CodeOk.part hm hkK_ok vn_e7) (CodeOk.cut (by kernel_rfl) (CodeOk.part hm hkK_ok vn_e8) (CodeOk.cut (by kernel_rfl) (CodeOk.part hm hkK_ok vn_e9) (CodeOk.cut (by kernel_rfl) (CodeOk.part hm hkK_ok vn_e10) (CodeOk.part hm hkK_ok vn_e11)))))))))))
theorem vn_ok : ∃ h2, FnOk Tryz.prog 5 [] ⟨0, .nil⟩ (.bool true) h2 (fun _ => True) (fun _ => True) :=
  ⟨_, FnOk.ofCode (fn := Tryz.f5) (c := bodyOf Tryz.prog 5) (args := []) (e := .ret) (f1 := ⟨⟨101, mkTr vn_t11⟩, [579]⟩) (vs := [.bool true]) (rs := [0]) Tryz.func5 (by kernel_rfl) vn_code (fun _ h => by cases h) rfl (by kernel_rfl)⟩
end Go.Proofs.YtghhpinkhdiocaaGreat
