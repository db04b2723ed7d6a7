/- SpaceNil, run in parts. -/
import Derived.Test.YtjbddodhanmcmaaKn
set_option linter.unusedVariables false
set_option linter.unusedSimpArgs false
set_option linter.unusedSimpArgs false
set_option maxRecDepth 1000000
namespace Go.Proofs.Ytjbddodhanmcmaa
open Go Go.Vm

def sn_b0_0 : O := .cells ⟨1, [.bool false], .nil, false, []⟩ 4
def sn_t0 : List (Nat × V) := [(0, .ptr (some (0, 0)))]
def sn_h0 : List (Nat × O) := [(0, sn_b0_0)]
theorem sn_e0 : runC Try.prog hkK 100000 60 (Code.sa (bodyOf Try.prog 3)) ⟨⟨186, .nil⟩, []⟩ (⟨0, .nil⟩) .norm 186 [] sn_t0 1 sn_h0 = true := by kernel_rfl
def sn_b1_0 : O := .cells ⟨5, [.ptr none, .ptr none, .int .i64 0, .int .i64 0, .slice none 0 0 true], .nil, false, []⟩ 29
def sn_b2_0 : O := .cells ⟨2, [.ptr none, .ptr (some (1, 0))], .nil, false, []⟩ 22
def sn_t1 : List (Nat × V) := [(0, .ptr (some (0, 0))), (1, .slice (some (2, 0)) 2 2 true)]
def sn_h1 : List (Nat × O) := [(0, sn_b0_0), (1, sn_b1_0), (2, sn_b2_0)]
theorem sn_e1 : runC Try.prog hkK 100000 60 (Code.sa (Code.sb (bodyOf Try.prog 3))) ⟨⟨186, mkTr sn_t0⟩, []⟩ (mkH 1 sn_h0) .norm 186 [] sn_t1 3 sn_h1 = true := by kernel_rfl
def sn_b13_0 : O := .deferred true
def sn_b25_0 : O := .deferred true
def sn_t2 : List (Nat × V) := [(0, .ptr (some (0, 0))), (4, .slice none 0 0 true)]
def sn_h2 : List (Nat × O) := [(0, sn_b0_0), (13, sn_b13_0), (25, sn_b25_0)]
theorem sn_e2 : runC Try.prog hkK 100000 60 (Code.sa (Code.sb (Code.sb (bodyOf Try.prog 3)))) ⟨⟨186, mkTr sn_t1⟩, []⟩ (mkH 3 sn_h1) .norm 186 [25, 13] sn_t2 27 sn_h2 = true := by kernel_rfl
def sn_b28_0 : O := .cells ⟨516, [.int .u8 0], (mkTr [(0, .int .i64 0), (1, .int .i64 0), (258, .int .i64 0), (259, .int .i64 0)]), false, []⟩ 115
def sn_b30_0 : O := .cells ⟨1, [.int .i64 1], .nil, false, []⟩ 3
def sn_b31_0 : O := .cells ⟨1, [.int .i64 0], .nil, false, []⟩ 3
def sn_b32_0 : O := .cells ⟨3, [.slice (some (28, 0)) 2 2 true, .slice (some (30, 0)) 1 1 false, .slice (some (31, 0)) 1 1 true], .nil, false, []⟩ 94
def sn_t3 : List (Nat × V) := [(0, .ptr (some (0, 0))), (4, .slice none 0 0 true), (11, .ptr (some (32, 0)))]
def sn_h3 : List (Nat × O) := [(0, sn_b0_0), (13, sn_b13_0), (25, sn_b25_0), (28, sn_b28_0), (30, sn_b30_0), (31, sn_b31_0), (32, sn_b32_0)]
theorem sn_e3 : runC Try.prog hkK 100000 60 (Code.sa (Code.sb (Code.sb (Code.sb (bodyOf Try.prog 3))))) ⟨⟨186, mkTr sn_t2⟩, [25, 13]⟩ (mkH 27 sn_h2) .norm 186 [25, 13] sn_t3 33 sn_h3 = true := by kernel_rfl
def sn_t4 : List (Nat × V) := [(0, .ptr (some (0, 0))), (4, .slice none 0 0 true), (11, .ptr (some (32, 0))), (14, .int .i64 1)]
def sn_h4 : List (Nat × O) := [(0, sn_b0_0), (13, sn_b13_0), (25, sn_b25_0), (28, sn_b28_0), (30, sn_b30_0), (31, sn_b31_0), (32, sn_b32_0)]
theorem sn_e4 : runC Try.prog hkK 100000 60 (Code.sa (Code.sb (Code.sb (Code.sb (Code.sb (bodyOf Try.prog 3)))))) ⟨⟨186, mkTr sn_t3⟩, [25, 13]⟩ (mkH 33 sn_h3) .norm 186 [25, 13] sn_t4 35 sn_h4 = true := by kernel_rfl
def sn_t5 : List (Nat × V) := [(0, .ptr (some (0, 0))), (4, .slice none 0 0 true), (11, .ptr (some (32, 0))), (14, .int .i64 1), (16, .int .i64 1)]
def sn_h5 : List (Nat × O) := [(0, sn_b0_0), (13, sn_b13_0), (25, sn_b25_0), (28, sn_b28_0), (30, sn_b30_0), (31, sn_b31_0), (32, sn_b32_0)]
theorem sn_e5 : runC Try.prog hkK 100000 60 (Code.sa (Code.sb (Code.sb (Code.sb (Code.sb (Code.sb (bodyOf Try.prog 3))))))) ⟨⟨186, mkTr sn_t4⟩, [25, 13]⟩ (mkH 35 sn_h4) .norm 186 [25, 13] sn_t5 42 sn_h5 = true := by kernel_rfl
def sn_t6 : List (Nat × V) := [(0, .ptr (some (0, 0))), (4, .slice none 0 0 true), (11, .ptr (some (32, 0))), (14, .int .i64 1), (16, .int .i64 1), (18, .int .i64 2)]
def sn_h6 : List (Nat × O) := [(0, sn_b0_0), (13, sn_b13_0), (25, sn_b25_0), (28, sn_b28_0), (30, sn_b30_0), (31, sn_b31_0), (32, sn_b32_0)]
theorem sn_e6 : runC Try.prog hkK 100000 60 (Code.sa (Code.sb (Code.sb (Code.sb (Code.sb (Code.sb (Code.sb (bodyOf Try.prog 3)))))))) ⟨⟨186, mkTr sn_t5⟩, [25, 13]⟩ (mkH 42 sn_h5) .norm 186 [25, 13] sn_t6 63 sn_h6 = true := by kernel_rfl
def sn_t7 : List (Nat × V) := [(0, .ptr (some (0, 0))), (4, .slice none 0 0 true), (11, .ptr (some (32, 0))), (14, .int .i64 1), (16, .int .i64 1), (18, .int .i64 2), (20, .int .i64 2)]
def sn_h7 : List (Nat × O) := [(0, sn_b0_0), (13, sn_b13_0), (25, sn_b25_0), (28, sn_b28_0), (30, sn_b30_0), (31, sn_b31_0), (32, sn_b32_0)]
theorem sn_e7 : runC Try.prog hkK 100000 60 (Code.sa (Code.sb (Code.sb (Code.sb (Code.sb (Code.sb (Code.sb (Code.sb (bodyOf Try.prog 3))))))))) ⟨⟨186, mkTr sn_t6⟩, [25, 13]⟩ (mkH 63 sn_h6) .norm 186 [25, 13] sn_t7 75 sn_h7 = true := by kernel_rfl
def sn_t8 : List (Nat × V) := [(0, .ptr (some (0, 0))), (4, .slice none 0 0 true), (11, .ptr (some (32, 0))), (14, .int .i64 1), (16, .int .i64 1), (18, .int .i64 2), (20, .int .i64 2), (22, .int .i64 2)]
def sn_h8 : List (Nat × O) := [(0, sn_b0_0), (13, sn_b13_0), (25, sn_b25_0), (28, sn_b28_0), (30, sn_b30_0), (31, sn_b31_0), (32, sn_b32_0)]
theorem sn_e8 : runC Try.prog hkK 100000 60 (Code.sa (Code.sb (Code.sb (Code.sb (Code.sb (Code.sb (Code.sb (Code.sb (Code.sb (bodyOf Try.prog 3)))))))))) ⟨⟨186, mkTr sn_t7⟩, [25, 13]⟩ (mkH 75 sn_h7) .norm 186 [25, 13] sn_t8 87 sn_h8 = true := by kernel_rfl
def sn_b87_0 : O := .map [] 0
def sn_b88_0 : O := .cells ⟨2561, [.bool false, .int .i64 0, .int .i64 0, .bool false, .bool false], (mkTr [(2560, .map (some 87))]), false, []⟩ 105
def sn_b725_0 : O := .cells ⟨5, [.ptr (some (32, 0)), .ptr (some (88, 0)), .int .i64 0, .int .i64 0, .slice none 0 0 true], .nil, false, []⟩ 29
def sn_t9 : List (Nat × V) := [(0, .ptr (some (0, 0))), (4, .slice none 0 0 true), (14, .int .i64 1), (16, .int .i64 1), (18, .int .i64 2), (20, .int .i64 2), (22, .int .i64 2), (23, .ptr (some (725, 0))), (24, .int .i64 0)]
def sn_h9 : List (Nat × O) := [(0, sn_b0_0), (13, sn_b13_0), (25, sn_b25_0), (28, sn_b28_0), (30, sn_b30_0), (31, sn_b31_0), (32, sn_b32_0), (87, sn_b87_0), (88, sn_b88_0), (725, sn_b725_0)]
theorem sn_e9 : runC Try.prog hkK 100000 60 (Code.sa (Code.sb (Code.sb (Code.sb (Code.sb (Code.sb (Code.sb (Code.sb (Code.sb (Code.sb (bodyOf Try.prog 3))))))))))) ⟨⟨186, mkTr sn_t8⟩, [25, 13]⟩ (mkH 87 sn_h8) .norm 186 [25, 13] sn_t9 726 sn_h9 = true := by kernel_rfl
def sn_t10 : List (Nat × V) := [(0, .ptr (some (0, 0))), (4, .slice none 0 0 true), (14, .int .i64 1), (16, .int .i64 1), (18, .int .i64 2), (20, .int .i64 2), (22, .int .i64 2), (24, .int .i64 0), (25, .int .i64 3)]
def sn_h10 : List (Nat × O) := [(0, sn_b0_0), (13, sn_b13_0), (25, sn_b25_0)]
theorem sn_e10 : runC Try.prog hkK 100000 60 (Code.sa (Code.sb (Code.sb (Code.sb (Code.sb (Code.sb (Code.sb (Code.sb (Code.sb (Code.sb (Code.sb (bodyOf Try.prog 3)))))))))))) ⟨⟨186, mkTr sn_t9⟩, [25, 13]⟩ (mkH 726 sn_h9) .norm 186 [25, 13] sn_t10 727 sn_h10 = true := by kernel_rfl
def sn_b0_1 : O := .cells ⟨1, [.bool true], .nil, false, []⟩ 4
def sn_t11 : List (Nat × V) := [(0, .ptr (some (0, 0))), (4, .slice none 0 0 true)]
def sn_h11 : List (Nat × O) := [(0, sn_b0_1), (13, sn_b13_0), (25, sn_b25_0)]
theorem sn_e11 : runC Try.prog hkK 100000 60 (Code.sa (Code.sb (Code.sb (Code.sb (Code.sb (Code.sb (Code.sb (Code.sb (Code.sb (Code.sb (Code.sb (Code.sb (bodyOf Try.prog 3))))))))))))) ⟨⟨186, mkTr sn_t10⟩, [25, 13]⟩ (mkH 727 sn_h10) .norm 186 [25, 13] sn_t11 727 sn_h11 = true := by kernel_rfl
def sn_t12 : List (Nat × V) := [(0, .ptr (some (0, 0))), (4, .slice none 0 0 true)]
def sn_h12 : List (Nat × O) := [(0, sn_b0_1), (13, sn_b13_0), (25, sn_b25_0)]
theorem sn_e12 : runC Try.prog hkK 100000 60 (Code.sb (Code.sb (Code.sb (Code.sb (Code.sb (Code.sb (Code.sb (Code.sb (Code.sb (Code.sb (Code.sb (Code.sb (bodyOf Try.prog 3))))))))))))) ⟨⟨186, mkTr sn_t11⟩, [25, 13]⟩ (mkH 727 sn_h11) .ret 186 [25, 13] sn_t12 727 sn_h12 = true := by kernel_rfl
theorem sn_code : CodeOk Try.prog none (bodyOf Try.prog 3) ⟨⟨186, .nil⟩, []⟩ ⟨0, .nil⟩ .ret ⟨⟨186, mkTr sn_t12⟩, [25, 13]⟩ (mkH 727 sn_h12) All All := CodeOk.cut (by kernel_rfl) (CodeOk.part hm hkK_ok sn_e0) (CodeOk.cut (by kernel_rfl) (CodeOk.part hm hkK_ok sn_e1) (CodeOk.cut (by kernel_rfl) (CodeOk.part hm hkK_ok sn_e2) (CodeOk.cut (by kernel_rfl) (CodeOk.part hm hkK_ok sn_e3) (CodeOk.cut (by kernel_rfl) (CodeOk.part hm hkK_ok sn_e4) (CodeOk.cut (by kernel_rfl) (CodeOk.part hm hkK_ok sn_e5) (CodeOk.cut (by kernel_rfl) (CodeOk.part hm hkK_ok sn_e6) (CodeOk.cut (by kernel_rfl) (CodeOk.part hm hkK_ok sn_e7) (CodeOk.cut (by kernel_rfl) (CodeOk.part hm hkK_ok sn_e8) (CodeOk.cut (by kernel_rfl) (CodeOk.part hm hkK_ok sn_e9) (CodeOk.cut (by kernel_rfl) (CodeOk.part hm hkK_ok sn_e10) (CodeOk.cut (by kernel_rfl) (CodeOk.part hm hkK_ok sn_e11) (CodeOk.part hm hkK_ok sn_e12))))))))))))
theorem nil_ok : ∃ h', FnOk Try.prog 3 [] ⟨0, .nil⟩ (.bool true) h' (fun _ => True) (fun _ => True) :=
  ⟨_, FnOk.ofCode (fn := Try.f3) (c := bodyOf Try.prog 3) (args := []) (e := .ret) (f1 := ⟨⟨186, mkTr sn_t12⟩, [25, 13]⟩) (vs := [.bool true]) (rs := [0]) Try.func3 (by kernel_rfl) sn_code (fun _ h => by cases h) rfl (by kernel_rfl)⟩
end Go.Proofs.Ytjbddodhanmcmaa
