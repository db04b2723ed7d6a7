/- SpaceNil: `known`, run in parts. -/
import Derived.Test.YtjbddodhanmcmaaProg
import Derived.Test.YtjbddodhanmcmaaV3
import Derived.KernelRfl
set_option linter.unusedVariables false
set_option linter.unusedSimpArgs false
set_option linter.unusedSimpArgs false
set_option maxRecDepth 1000000
namespace Go.Proofs.Ytjbddodhanmcmaa
open Go Go.Vm
theorem hm : Try.prog.follows .mixedOrders = true := by kernel_rfl

def kn_t0 : List (Nat × V) := [(0, .bool false)]
def kn_h0 : List (Nat × O) := []
theorem kn_e0 : runC Try.prog noHook 100000 60 (Code.sa (bodyOf Try.prog 21)) ⟨⟨177, .nil⟩, []⟩ (⟨0, .nil⟩) .norm 177 [] kn_t0 0 kn_h0 = true := by kernel_rfl
def kn_b1_0 : O := .cells ⟨1032, [.int .u8 0], (mkTr [(0, .int .i64 0), (1, .int .i64 0), (258, .int .i64 0), (259, .int .i64 0), (516, .int .i64 0), (517, .int .i64 0), (774, .int .i64 0), (775, .int .i64 0)]), false, []⟩ 115
def kn_b3_0 : O := .cells ⟨1, [.int .i64 3], .nil, false, []⟩ 3
def kn_b4_0 : O := .cells ⟨1, [.int .i64 0], .nil, false, []⟩ 3
def kn_b5_0 : O := .cells ⟨3, [.slice (some (1, 0)) 4 4 true, .slice (some (3, 0)) 1 1 false, .slice (some (4, 0)) 1 1 true], .nil, false, []⟩ 94
def kn_t1 : List (Nat × V) := [(0, .bool false), (1, .ptr (some (5, 0))), (2, .int .i64 0)]
def kn_h1 : List (Nat × O) := [(1, kn_b1_0), (3, kn_b3_0), (4, kn_b4_0), (5, kn_b5_0)]
theorem kn_e1 : runC Try.prog noHook 100000 60 (Code.sa (Code.sb (bodyOf Try.prog 21))) ⟨⟨177, mkTr kn_t0⟩, []⟩ (mkH 0 kn_h0) .norm 177 [] kn_t1 6 kn_h1 = true := by kernel_rfl
def kn_b6_0 : O := .map [] 0
def kn_b7_0 : O := .cells ⟨2561, [.bool false, .int .i64 0, .int .i64 0, .bool false, .bool false], (mkTr [(2560, .map (some 6))]), false, []⟩ 105
def kn_b648_0 : O := .cells ⟨5, [.ptr (some (5, 0)), .ptr (some (7, 0)), .int .i64 1, .int .i64 0, .slice none 0 0 true], .nil, false, []⟩ 29
def kn_t2 : List (Nat × V) := [(0, .bool false), (1, .ptr (some (5, 0))), (2, .int .i64 0), (3, .ptr (some (648, 0))), (4, .int .i64 0)]
def kn_h2 : List (Nat × O) := [(1, kn_b1_0), (3, kn_b3_0), (4, kn_b4_0), (5, kn_b5_0), (6, kn_b6_0), (7, kn_b7_0), (648, kn_b648_0)]
theorem kn_e2 : runC Try.prog noHook 100000 60 (Code.sa (Code.sb (Code.sb (bodyOf Try.prog 21)))) ⟨⟨177, mkTr kn_t1⟩, []⟩ (mkH 6 kn_h1) .norm 177 [] kn_t2 649 kn_h2 = true := by kernel_rfl
def kn_b648_1 : O := .cells ⟨5, [.ptr (some (5, 0)), .ptr (some (7, 0)), .int .i64 1, .int .i64 0, .slice (some (656, 0)) 1 1 false], .nil, false, []⟩ 29
def kn_b654_0 : O := .cells ⟨2, [.int .u8 7, .int .u8 8], .nil, false, []⟩ 5
def kn_b656_0 : O := .cells ⟨4, [.int .i64 0, .int .i64 2, .int .i64 3, .slice (some (654, 0)) 2 2 false], .nil, false, []⟩ 42
def kn_t3 : List (Nat × V) := [(0, .bool false), (1, .ptr (some (5, 0))), (3, .ptr (some (648, 0)))]
def kn_h3 : List (Nat × O) := [(1, kn_b1_0), (3, kn_b3_0), (4, kn_b4_0), (5, kn_b5_0), (6, kn_b6_0), (7, kn_b7_0), (648, kn_b648_1), (654, kn_b654_0), (656, kn_b656_0)]
theorem kn_e3 : runC Try.prog noHook 100000 60 (Code.sa (Code.sb (Code.sb (Code.sb (bodyOf Try.prog 21))))) ⟨⟨177, mkTr kn_t2⟩, []⟩ (mkH 649 kn_h2) .norm 177 [] kn_t3 657 kn_h3 = true := by kernel_rfl
def kn_b1_1 : O := .cells ⟨1032, [.int .u8 0], (mkTr [(0, .int .i64 0), (1, .int .i64 1), (2, .int .u8 7), (3, .int .u8 8), (258, .int .i64 0), (259, .int .i64 0), (516, .int .i64 0), (517, .int .i64 0), (774, .int .i64 0), (775, .int .i64 0)]), false, []⟩ 115
def kn_b4_1 : O := .cells ⟨1, [.int .i64 1], .nil, false, []⟩ 3
def kn_b6_1 : O := .map [(.agg [.int .i64 1, .int .i64 0], .int .i64 0, 0)] 1
def kn_b7_1 : O := .cells ⟨2561, [.bool false, .int .i64 0, .int .i64 0, .bool false, .bool false], (mkTr [(160, .bool true), (162, .int .i64 3), (2560, .map (some 6))]), false, []⟩ 105
def kn_b688_0 : O := .cells ⟨3, [.int .u8 7, .int .u8 8, .int .u8 0], .nil, false, []⟩ 5
def kn_t4 : List (Nat × V) := [(0, .bool false), (1, .ptr (some (5, 0))), (3, .ptr (some (648, 0))), (5, .slice (some (688, 0)) 3 3 false), (6, .int .i64 0)]
def kn_h4 : List (Nat × O) := [(1, kn_b1_1), (3, kn_b3_0), (4, kn_b4_1), (5, kn_b5_0), (6, kn_b6_1), (7, kn_b7_1), (648, kn_b648_1), (654, kn_b654_0), (656, kn_b656_0), (688, kn_b688_0)]
theorem kn_e4 : runC Try.prog noHook 100000 60 (Code.sa (Code.sb (Code.sb (Code.sb (Code.sb (bodyOf Try.prog 21)))))) ⟨⟨177, mkTr kn_t3⟩, []⟩ (mkH 657 kn_h3) .norm 177 [] kn_t4 689 kn_h4 = true := by kernel_rfl
def kn_t5 : List (Nat × V) := [(0, .bool false), (1, .ptr (some (5, 0))), (3, .ptr (some (648, 0))), (5, .slice (some (688, 0)) 3 3 false), (6, .int .i64 0), (7, .int .i64 1)]
def kn_h5 : List (Nat × O) := [(1, kn_b1_1), (3, kn_b3_0), (4, kn_b4_1), (5, kn_b5_0), (6, kn_b6_1), (7, kn_b7_1), (648, kn_b648_1), (654, kn_b654_0), (656, kn_b656_0), (688, kn_b688_0)]
theorem kn_e5 : runC Try.prog noHook 100000 60 (Code.sa (Code.sb (Code.sb (Code.sb (Code.sb (Code.sb (bodyOf Try.prog 21))))))) ⟨⟨177, mkTr kn_t4⟩, []⟩ (mkH 689 kn_h4) .norm 177 [] kn_t5 727 kn_h5 = true := by kernel_rfl
def kn_t6 : List (Nat × V) := [(0, .bool false), (1, .ptr (some (5, 0))), (3, .ptr (some (648, 0))), (5, .slice (some (688, 0)) 3 3 false), (6, .int .i64 0), (7, .int .i64 1), (8, .int .i64 10), (9, .int .i64 10)]
def kn_h6 : List (Nat × O) := [(1, kn_b1_1), (3, kn_b3_0), (4, kn_b4_1), (5, kn_b5_0), (6, kn_b6_1), (7, kn_b7_1), (648, kn_b648_1), (654, kn_b654_0), (656, kn_b656_0), (688, kn_b688_0)]
theorem kn_e6 : runC Try.prog noHook 100000 60 (Code.sa (Code.sb (Code.sb (Code.sb (Code.sb (Code.sb (Code.sb (bodyOf Try.prog 21)))))))) ⟨⟨177, mkTr kn_t5⟩, []⟩ (mkH 727 kn_h5) .norm 177 [] kn_t6 732 kn_h6 = true := by kernel_rfl
def kn_b1_2 : O := .cells ⟨1032, [.int .u8 0], (mkTr [(0, .int .i64 0), (1, .int .i64 2), (2, .int .u8 7), (3, .int .u8 8), (258, .int .i64 0), (259, .int .i64 0), (516, .int .i64 0), (517, .int .i64 0), (774, .int .i64 0), (775, .int .i64 0)]), false, []⟩ 115
def kn_b6_2 : O := .map [(.agg [.int .i64 1, .int .i64 0], .int .i64 0, 0), (.agg [.int .i64 2, .int .i64 0], .int .i64 0, 1)] 2
def kn_b7_2 : O := .cells ⟨2561, [.bool false, .int .i64 0, .int .i64 0, .bool false, .bool false], (mkTr [(160, .bool true), (162, .int .i64 1), (320, .bool true), (322, .int .i64 1), (2560, .map (some 6))]), false, []⟩ 105
def kn_b1350_0 : O := .cells ⟨5, [.ptr (some (5, 0)), .ptr (some (7, 0)), .int .i64 2, .int .i64 0, .slice (some (1359, 0)) 1 1 false], .nil, false, []⟩ 29
def kn_b1357_0 : O := .cells ⟨2, [.int .u8 7, .int .u8 8], .nil, false, []⟩ 5
def kn_b1359_0 : O := .cells ⟨4, [.int .i64 0, .int .i64 2, .int .i64 3, .slice (some (1357, 0)) 2 2 false], .nil, false, []⟩ 42
def kn_t7 : List (Nat × V) := [(0, .bool false), (1, .ptr (some (5, 0))), (3, .ptr (some (648, 0))), (5, .slice (some (688, 0)) 3 3 false), (6, .int .i64 0), (7, .int .i64 1), (8, .int .i64 10), (9, .int .i64 10), (10, .ptr (some (1350, 0))), (11, .int .i64 0)]
def kn_h7 : List (Nat × O) := [(1, kn_b1_2), (3, kn_b3_0), (4, kn_b4_1), (5, kn_b5_0), (6, kn_b6_2), (7, kn_b7_2), (648, kn_b648_1), (654, kn_b654_0), (656, kn_b656_0), (688, kn_b688_0), (1350, kn_b1350_0), (1357, kn_b1357_0), (1359, kn_b1359_0)]
theorem kn_e7 : runC Try.prog noHook 100000 60 (Code.sa (Code.sb (Code.sb (Code.sb (Code.sb (Code.sb (Code.sb (Code.sb (bodyOf Try.prog 21))))))))) ⟨⟨177, mkTr kn_t6⟩, []⟩ (mkH 732 kn_h6) .norm 177 [] kn_t7 1400 kn_h7 = true := by kernel_rfl
def kn_b1_3 : O := .cells ⟨1032, [.int .u8 0], (mkTr [(0, .int .i64 0), (1, .int .i64 1), (2, .int .u8 7), (3, .int .u8 8), (258, .int .i64 0), (259, .int .i64 1), (260, .int .u8 9), (261, .int .u8 8), (516, .int .i64 0), (517, .int .i64 0), (774, .int .i64 0), (775, .int .i64 0)]), false, []⟩ 115
def kn_b4_2 : O := .cells ⟨1, [.int .i64 2], .nil, false, []⟩ 3
def kn_b6_3 : O := .map [(.agg [.int .i64 1, .int .i64 0], .int .i64 0, 0), (.agg [.int .i64 2, .int .i64 0], .int .i64 1, 2)] 3
def kn_b7_3 : O := .cells ⟨2561, [.bool false, .int .i64 0, .int .i64 0, .bool false, .bool false], (mkTr [(160, .bool true), (162, .int .i64 1), (320, .bool true), (321, .int .i64 1), (322, .int .i64 3), (2560, .map (some 6))]), false, []⟩ 105
def kn_t8 : List (Nat × V) := [(0, .bool false), (1, .ptr (some (5, 0))), (3, .ptr (some (648, 0))), (5, .slice (some (688, 0)) 3 3 false), (6, .int .i64 0), (7, .int .i64 1), (8, .int .i64 10), (9, .int .i64 10), (10, .ptr (some (1350, 0))), (11, .int .i64 0), (12, .int .i64 0)]
def kn_h8 : List (Nat × O) := [(1, kn_b1_3), (3, kn_b3_0), (4, kn_b4_2), (5, kn_b5_0), (6, kn_b6_3), (7, kn_b7_3), (648, kn_b648_1), (654, kn_b654_0), (656, kn_b656_0), (688, kn_b688_0), (1350, kn_b1350_0), (1357, kn_b1357_0), (1359, kn_b1359_0)]
theorem kn_e8 : runC Try.prog noHook 100000 60 (Code.sa (Code.sb (Code.sb (Code.sb (Code.sb (Code.sb (Code.sb (Code.sb (Code.sb (bodyOf Try.prog 21)))))))))) ⟨⟨177, mkTr kn_t7⟩, []⟩ (mkH 1400 kn_h7) .norm 177 [] kn_t8 1420 kn_h8 = true := by kernel_rfl
def kn_b1437_0 : O := .cells ⟨1, [.int .u8 7], .nil, false, []⟩ 5
def kn_t9 : List (Nat × V) := [(0, .bool false), (1, .ptr (some (5, 0))), (3, .ptr (some (648, 0))), (5, .slice (some (688, 0)) 3 3 false), (6, .int .i64 0), (7, .int .i64 1), (8, .int .i64 10), (9, .int .i64 10), (10, .ptr (some (1350, 0))), (11, .int .i64 0), (12, .int .i64 0), (13, .slice (some (1437, 0)) 1 1 false), (14, .int .i64 0)]
def kn_h9 : List (Nat × O) := [(1, kn_b1_3), (3, kn_b3_0), (4, kn_b4_2), (5, kn_b5_0), (6, kn_b6_3), (7, kn_b7_3), (648, kn_b648_1), (654, kn_b654_0), (656, kn_b656_0), (688, kn_b688_0), (1350, kn_b1350_0), (1357, kn_b1357_0), (1359, kn_b1359_0), (1437, kn_b1437_0)]
theorem kn_e9 : runC Try.prog noHook 100000 60 (Code.sa (Code.sb (Code.sb (Code.sb (Code.sb (Code.sb (Code.sb (Code.sb (Code.sb (Code.sb (bodyOf Try.prog 21))))))))))) ⟨⟨177, mkTr kn_t8⟩, []⟩ (mkH 1420 kn_h8) .norm 177 [] kn_t9 1438 kn_h9 = true := by kernel_rfl
def kn_b1461_0 : O := .cells ⟨2, [.int .u8 9, .int .u8 8], .nil, false, []⟩ 5
def kn_t10 : List (Nat × V) := [(0, .bool false), (1, .ptr (some (5, 0))), (3, .ptr (some (648, 0))), (5, .slice (some (688, 0)) 3 3 false), (6, .int .i64 0), (7, .int .i64 1), (8, .int .i64 10), (9, .int .i64 10), (10, .ptr (some (1350, 0))), (11, .int .i64 0), (12, .int .i64 0), (13, .slice (some (1437, 0)) 1 1 false), (14, .int .i64 0), (15, .slice (some (1461, 0)) 2 2 false), (16, .int .i64 0)]
def kn_h10 : List (Nat × O) := [(1, kn_b1_3), (3, kn_b3_0), (4, kn_b4_2), (5, kn_b5_0), (6, kn_b6_3), (7, kn_b7_3), (648, kn_b648_1), (654, kn_b654_0), (656, kn_b656_0), (688, kn_b688_0), (1350, kn_b1350_0), (1357, kn_b1357_0), (1359, kn_b1359_0), (1437, kn_b1437_0), (1461, kn_b1461_0)]
theorem kn_e10 : runC Try.prog noHook 100000 60 (Code.sa (Code.sb (Code.sb (Code.sb (Code.sb (Code.sb (Code.sb (Code.sb (Code.sb (Code.sb (Code.sb (bodyOf Try.prog 21)))))))))))) ⟨⟨177, mkTr kn_t9⟩, []⟩ (mkH 1438 kn_h9) .norm 177 [] kn_t10 1462 kn_h10 = true := by kernel_rfl
def kn_t11 : List (Nat × V) := [(0, .bool false), (1, .ptr (some (5, 0))), (3, .ptr (some (648, 0))), (5, .slice (some (688, 0)) 3 3 false), (6, .int .i64 0), (7, .int .i64 1), (8, .int .i64 10), (9, .int .i64 10), (10, .ptr (some (1350, 0))), (11, .int .i64 0), (12, .int .i64 0), (13, .slice (some (1437, 0)) 1 1 false), (14, .int .i64 0), (15, .slice (some (1461, 0)) 2 2 false), (16, .int .i64 0), (17, .int .i64 2)]
def kn_h11 : List (Nat × O) := [(1, kn_b1_3), (3, kn_b3_0), (4, kn_b4_2), (5, kn_b5_0), (6, kn_b6_3), (7, kn_b7_3), (648, kn_b648_1), (654, kn_b654_0), (656, kn_b656_0), (688, kn_b688_0), (1350, kn_b1350_0), (1357, kn_b1357_0), (1359, kn_b1359_0), (1437, kn_b1437_0), (1461, kn_b1461_0)]
theorem kn_e11 : runC Try.prog noHook 100000 60 (Code.sa (Code.sb (Code.sb (Code.sb (Code.sb (Code.sb (Code.sb (Code.sb (Code.sb (Code.sb (Code.sb (Code.sb (bodyOf Try.prog 21))))))))))))) ⟨⟨177, mkTr kn_t10⟩, []⟩ (mkH 1462 kn_h10) .norm 177 [] kn_t11 1462 kn_h11 = true := by kernel_rfl
def kn_b1_4 : O := .cells ⟨1032, [.int .u8 0], (mkTr [(0, .int .i64 0), (1, .int .i64 1), (2, .int .u8 7), (3, .int .u8 8), (257, .int .u8 1), (258, .int .i64 0), (259, .int .i64 1), (260, .int .u8 9), (261, .int .u8 8), (516, .int .i64 0), (517, .int .i64 1), (518, .int .u8 2), (774, .int .i64 0), (775, .int .i64 0)]), false, []⟩ 115
def kn_b4_3 : O := .cells ⟨1, [.int .i64 3], .nil, false, []⟩ 3
def kn_b6_4 : O := .map [(.agg [.int .i64 1, .int .i64 0], .int .i64 0, 0), (.agg [.int .i64 2, .int .i64 0], .int .i64 1, 2), (.agg [.int .i64 1, .int .i64 1], .int .i64 2, 3)] 4
def kn_b7_4 : O := .cells ⟨2561, [.bool false, .int .i64 0, .int .i64 0, .bool false, .bool false], (mkTr [(160, .bool true), (162, .int .i64 3), (165, .bool true), (166, .int .i64 2), (167, .int .i64 3), (320, .bool true), (321, .int .i64 1), (322, .int .i64 3), (2560, .map (some 6))]), false, []⟩ 105
def kn_t12 : List (Nat × V) := [(0, .bool false), (1, .ptr (some (5, 0))), (3, .ptr (some (648, 0))), (5, .slice (some (688, 0)) 3 3 false), (6, .int .i64 0), (7, .int .i64 1), (8, .int .i64 10), (9, .int .i64 10), (10, .ptr (some (1350, 0))), (11, .int .i64 0), (12, .int .i64 0), (13, .slice (some (1437, 0)) 1 1 false), (14, .int .i64 0), (15, .slice (some (1461, 0)) 2 2 false), (16, .int .i64 0), (17, .int .i64 2), (18, .int .i64 0)]
def kn_h12 : List (Nat × O) := [(1, kn_b1_4), (3, kn_b3_0), (4, kn_b4_3), (5, kn_b5_0), (6, kn_b6_4), (7, kn_b7_4), (648, kn_b648_1), (654, kn_b654_0), (656, kn_b656_0), (688, kn_b688_0), (1350, kn_b1350_0), (1357, kn_b1357_0), (1359, kn_b1359_0), (1437, kn_b1437_0), (1461, kn_b1461_0)]
theorem kn_e12 : runC Try.prog noHook 100000 60 (Code.sa (Code.sb (Code.sb (Code.sb (Code.sb (Code.sb (Code.sb (Code.sb (Code.sb (Code.sb (Code.sb (Code.sb (Code.sb (bodyOf Try.prog 21)))))))))))))) ⟨⟨177, mkTr kn_t11⟩, []⟩ (mkH 1462 kn_h11) .norm 177 [] kn_t12 1492 kn_h12 = true := by kernel_rfl
def kn_t13 : List (Nat × V) := [(0, .bool false), (1, .ptr (some (5, 0))), (3, .ptr (some (648, 0))), (5, .slice (some (688, 0)) 3 3 false), (6, .int .i64 0), (7, .int .i64 1), (8, .int .i64 10), (9, .int .i64 10), (10, .ptr (some (1350, 0))), (11, .int .i64 0), (12, .int .i64 0), (13, .slice (some (1437, 0)) 1 1 false), (14, .int .i64 0), (15, .slice (some (1461, 0)) 2 2 false), (16, .int .i64 0), (17, .int .i64 2), (18, .int .i64 0), (19, .int .i64 3)]
def kn_h13 : List (Nat × O) := [(1, kn_b1_4), (3, kn_b3_0), (4, kn_b4_3), (5, kn_b5_0), (6, kn_b6_4), (7, kn_b7_4), (648, kn_b648_1), (654, kn_b654_0), (656, kn_b656_0), (688, kn_b688_0), (1350, kn_b1350_0), (1357, kn_b1357_0), (1359, kn_b1359_0), (1437, kn_b1437_0), (1461, kn_b1461_0)]
theorem kn_e13 : runC Try.prog noHook 100000 60 (Code.sa (Code.sb (Code.sb (Code.sb (Code.sb (Code.sb (Code.sb (Code.sb (Code.sb (Code.sb (Code.sb (Code.sb (Code.sb (Code.sb (bodyOf Try.prog 21))))))))))))))) ⟨⟨177, mkTr kn_t12⟩, []⟩ (mkH 1492 kn_h12) .norm 177 [] kn_t13 1492 kn_h13 = true := by kernel_rfl
def kn_t14 : List (Nat × V) := [(0, .bool false), (1, .ptr (some (5, 0))), (3, .ptr (some (648, 0))), (5, .slice (some (688, 0)) 3 3 false), (6, .int .i64 0), (7, .int .i64 1), (8, .int .i64 10), (9, .int .i64 10), (10, .ptr (some (1350, 0))), (11, .int .i64 0), (12, .int .i64 0), (13, .slice (some (1437, 0)) 1 1 false), (14, .int .i64 0), (15, .slice (some (1461, 0)) 2 2 false), (16, .int .i64 0), (17, .int .i64 2), (18, .int .i64 0), (19, .int .i64 3), (21, .int .i64 5)]
def kn_h14 : List (Nat × O) := [(1, kn_b1_4), (3, kn_b3_0), (4, kn_b4_3), (5, kn_b5_0), (6, kn_b6_4), (7, kn_b7_4), (648, kn_b648_1), (654, kn_b654_0), (656, kn_b656_0), (688, kn_b688_0), (1350, kn_b1350_0), (1357, kn_b1357_0), (1359, kn_b1359_0), (1437, kn_b1437_0), (1461, kn_b1461_0)]
theorem kn_e14 : runC Try.prog noHook 100000 60 (Code.sa (Code.sb (Code.sb (Code.sb (Code.sb (Code.sb (Code.sb (Code.sb (Code.sb (Code.sb (Code.sb (Code.sb (Code.sb (Code.sb (Code.sb (bodyOf Try.prog 21)))))))))))))))) ⟨⟨177, mkTr kn_t13⟩, []⟩ (mkH 1492 kn_h13) .norm 177 [] kn_t14 1499 kn_h14 = true := by kernel_rfl
def kn_b1_5 : O := .cells ⟨1032, [.int .u8 0], (mkTr [(0, .int .i64 0), (1, .int .i64 0), (2, .int .u8 7), (3, .int .u8 8), (257, .int .u8 1), (258, .int .i64 0), (259, .int .i64 1), (260, .int .u8 9), (261, .int .u8 8), (516, .int .i64 0), (517, .int .i64 0), (518, .int .u8 2), (774, .int .i64 0), (775, .int .i64 0)]), false, []⟩ 115
def kn_b6_5 : O := .map [(.agg [.int .i64 2, .int .i64 0], .int .i64 1, 2)] 4
def kn_b7_5 : O := .cells ⟨2561, [.bool false, .int .i64 0, .int .i64 0, .bool false, .bool false], (mkTr [(320, .bool true), (321, .int .i64 1), (322, .int .i64 3), (2560, .map (some 6))]), false, []⟩ 105
def kn_t15 : List (Nat × V) := [(0, .bool false), (1, .ptr (some (5, 0))), (5, .slice (some (688, 0)) 3 3 false), (6, .int .i64 0), (7, .int .i64 1), (8, .int .i64 10), (9, .int .i64 10), (10, .ptr (some (1350, 0))), (11, .int .i64 0), (12, .int .i64 0), (13, .slice (some (1437, 0)) 1 1 false), (14, .int .i64 0), (15, .slice (some (1461, 0)) 2 2 false), (16, .int .i64 0), (17, .int .i64 2), (18, .int .i64 0), (19, .int .i64 3), (21, .int .i64 5), (22, .int .i64 2)]
def kn_h15 : List (Nat × O) := [(1, kn_b1_5), (3, kn_b3_0), (4, kn_b4_1), (5, kn_b5_0), (6, kn_b6_5), (7, kn_b7_5), (688, kn_b688_0), (1350, kn_b1350_0), (1357, kn_b1357_0), (1359, kn_b1359_0), (1437, kn_b1437_0), (1461, kn_b1461_0)]
theorem kn_e15 : runC Try.prog noHook 100000 60 (Code.sa (Code.sb (Code.sb (Code.sb (Code.sb (Code.sb (Code.sb (Code.sb (Code.sb (Code.sb (Code.sb (Code.sb (Code.sb (Code.sb (Code.sb (Code.sb (bodyOf Try.prog 21))))))))))))))))) ⟨⟨177, mkTr kn_t14⟩, []⟩ (mkH 1499 kn_h14) .norm 177 [] kn_t15 1602 kn_h15 = true := by kernel_rfl
def kn_b1_6 : O := .cells ⟨1032, [.int .u8 0], (mkTr [(0, .int .i64 0), (1, .int .i64 1), (258, .int .i64 0), (259, .int .i64 1), (260, .int .u8 9), (261, .int .u8 8), (516, .int .i64 0), (517, .int .i64 0), (518, .int .u8 2), (774, .int .i64 0), (775, .int .i64 0)]), false, []⟩ 115
def kn_b1621_0 : O := .cells ⟨1, [.int .u8 0], .nil, false, []⟩ 5
def kn_t16 : List (Nat × V) := [(0, .bool false), (1, .ptr (some (5, 0))), (5, .slice (some (688, 0)) 3 3 false), (6, .int .i64 0), (7, .int .i64 1), (8, .int .i64 10), (9, .int .i64 10), (11, .int .i64 0), (12, .int .i64 0), (13, .slice (some (1437, 0)) 1 1 false), (14, .int .i64 0), (15, .slice (some (1461, 0)) 2 2 false), (16, .int .i64 0), (17, .int .i64 2), (18, .int .i64 0), (19, .int .i64 3), (21, .int .i64 5), (22, .int .i64 2), (23, .slice (some (1621, 0)) 1 1 false), (24, .int .i64 0)]
def kn_h16 : List (Nat × O) := [(1, kn_b1_6), (3, kn_b3_0), (4, kn_b4_2), (5, kn_b5_0), (688, kn_b688_0), (1437, kn_b1437_0), (1461, kn_b1461_0), (1621, kn_b1621_0)]
theorem kn_e16 : runC Try.prog noHook 100000 60 (Code.sa (Code.sb (Code.sb (Code.sb (Code.sb (Code.sb (Code.sb (Code.sb (Code.sb (Code.sb (Code.sb (Code.sb (Code.sb (Code.sb (Code.sb (Code.sb (Code.sb (bodyOf Try.prog 21)))))))))))))))))) ⟨⟨177, mkTr kn_t15⟩, []⟩ (mkH 1602 kn_h15) .norm 177 [] kn_t16 1622 kn_h16 = true := by kernel_rfl
def kn_t17 : List (Nat × V) := [(0, .bool true)]
def kn_h17 : List (Nat × O) := []
theorem kn_e17 : runC Try.prog noHook 100000 60 (Code.sa (Code.sb (Code.sb (Code.sb (Code.sb (Code.sb (Code.sb (Code.sb (Code.sb (Code.sb (Code.sb (Code.sb (Code.sb (Code.sb (Code.sb (Code.sb (Code.sb (Code.sb (bodyOf Try.prog 21))))))))))))))))))) ⟨⟨177, mkTr kn_t16⟩, []⟩ (mkH 1622 kn_h16) .norm 177 [] kn_t17 1622 kn_h17 = true := by kernel_rfl
def kn_t18 : List (Nat × V) := [(0, .bool true)]
def kn_h18 : List (Nat × O) := []
theorem kn_e18 : runC Try.prog noHook 100000 60 (Code.sb (Code.sb (Code.sb (Code.sb (Code.sb (Code.sb (Code.sb (Code.sb (Code.sb (Code.sb (Code.sb (Code.sb (Code.sb (Code.sb (Code.sb (Code.sb (Code.sb (Code.sb (bodyOf Try.prog 21))))))))))))))))))) ⟨⟨177, mkTr kn_t17⟩, []⟩ (mkH 1622 kn_h17) .ret 177 [] kn_t18 1622 kn_h18 = true := by kernel_rfl
theorem kn_code : CodeOk Try.prog none (bodyOf Try.prog 21) ⟨⟨177, .nil⟩, []⟩ ⟨0, .nil⟩ .ret ⟨⟨177, mkTr kn_t18⟩, []⟩ (mkH 1622 kn_h18) All All := CodeOk.cut (by kernel_rfl) (CodeOk.part hm noHook_ok kn_e0) (CodeOk.cut (by kernel_rfl) (CodeOk.part hm noHook_ok kn_e1) (CodeOk.cut (by kernel_rfl) (CodeOk.part hm noHook_ok kn_e2) (CodeOk.cut (by kernel_rfl) (CodeOk.part hm noHook_ok kn_e3) (CodeOk.cut (by kernel_rfl) (CodeOk.part hm noHook_ok kn_e4) (CodeOk.cut (by kernel_rfl) (CodeOk.part hm noHook_ok kn_e5) (CodeOk.cut (by kernel_rfl) (CodeOk.part hm noHook_ok kn_e6) (CodeOk.cut (by kernel_rfl) (CodeOk.part hm noHook_ok kn_e7) (CodeOk.cut (by kernel_rfl) (CodeOk.part hm noHook_ok kn_e8) (CodeOk.cut (by kernel_rfl) (CodeOk.part hm noHook_ok kn_e9) (CodeOk.cut (by kernel_rfl) (CodeOk.part hm noHook_ok kn_e10) (CodeOk.cut (by kernel_rfl) (CodeOk.part hm noHook_ok kn_e11) (CodeOk.cut (by kernel_rfl) (CodeOk.part hm noHook_ok kn_e12) (CodeOk.cut (by kernel_rfl) (CodeOk.part hm noHook_ok kn_e13) (CodeOk.cut (by kernel_rfl) (CodeOk.part hm noHook_ok kn_e14) (CodeOk.cut (by kernel_rfl) (CodeOk.part hm noHook_ok kn_e15) (CodeOk.cut (by kernel_rfl) (CodeOk.part hm noHook_ok kn_e16) (CodeOk.cut (by kernel_rfl) (CodeOk.part hm noHook_ok kn_e17) (CodeOk.part hm noHook_ok kn_e18))))))))))))))))))
theorem known_ok : FnOk Try.prog 21 [] ⟨0, .nil⟩ (retV [.bool true]) (mkH 1622 kn_h18) (fun _ => True) (fun _ => True) :=
  FnOk.ofCode (rs := []) (s2 := ⟨mkH 1622 kn_h18, 0, [], []⟩) (fn := Try.f21) (c := bodyOf Try.prog 21) (args := []) (e := .ret) (f1 := ⟨⟨177, mkTr kn_t18⟩, []⟩) Try.func21 (by kernel_rfl) kn_code (fun _ h => by cases h) rfl (by kernel_rfl)
def hkK : Hook := hkTrue 21
theorem hkK_ok : HookOk Try.prog hkK := hkTrue_fn known_ok
end Go.Proofs.Ytjbddodhanmcmaa
