/- KernelNil, run in parts. -/
import Derived.Test.YtdfihilgbeogbaaGreatKn
set_option linter.unusedVariables false
set_option linter.unusedSimpArgs false
set_option linter.unusedSimpArgs false
set_option maxRecDepth 1000000
namespace Go.Proofs.YtdfihilgbeogbaaGreat
open Go Go.Vm

def kn0_b0_0 : O := .cells ⟨1, [.bool false], .nil, false, []⟩ 4
def kn0_t0 : List (Nat × V) := [(0, .ptr (some (0, 0)))]
def kn0_h0 : List (Nat × O) := [(0, kn0_b0_0)]
theorem kn0_e0 : runC Tryz.prog hkK 100000 80 (Code.sa (bodyOf Tryz.prog 5)) ⟨⟨117, .nil⟩, []⟩ (⟨0, .nil⟩) .norm 117 [] kn0_t0 1 kn0_h0 = true := by kernel_rfl
def kn0_b1_0 : O := .cells ⟨13, [.ptr none, .ptr none, .ptr none, .ptr none, .ptr none, .int .i64 0, .int .i64 0, .slice none 0 0 true, .slice none 0 0 true, .slice none 0 0 true, .slice none 0 0 true, .int .i64 0, .slice none 0 0 true], .nil, false, []⟩ 80
def kn0_b2_0 : O := .cells ⟨2, [.ptr none, .ptr (some (1, 0))], .nil, false, []⟩ 39
def kn0_t1 : List (Nat × V) := [(0, .ptr (some (0, 0))), (1, .slice (some (2, 0)) 2 2 true)]
def kn0_h1 : List (Nat × O) := [(0, kn0_b0_0), (1, kn0_b1_0), (2, kn0_b2_0)]
theorem kn0_e1 : runC Tryz.prog hkK 100000 80 (Code.sa (Code.sb (bodyOf Tryz.prog 5))) ⟨⟨117, mkTr kn0_t0⟩, []⟩ (mkH 1 kn0_h0) .norm 117 [] kn0_t1 3 kn0_h1 = true := by kernel_rfl
def kn0_b9_0 : O := .deferred true
def kn0_b16_0 : O := .cells ⟨4, [.int .i64 0, .int .i64 0, .int .i64 0, .bool false], .nil, false, []⟩ 45
def kn0_b21_0 : O := .deferred true
def kn0_t2 : List (Nat × V) := [(0, .ptr (some (0, 0))), (4, .ptr (some (16, 0)))]
def kn0_h2 : List (Nat × O) := [(0, kn0_b0_0), (9, kn0_b9_0), (16, kn0_b16_0), (21, kn0_b21_0)]
theorem kn0_e2 : runC Tryz.prog hkK 100000 80 (Code.sa (Code.sb (Code.sb (bodyOf Tryz.prog 5)))) ⟨⟨117, mkTr kn0_t1⟩, []⟩ (mkH 3 kn0_h1) .norm 117 [21, 9] kn0_t2 27 kn0_h2 = true := by kernel_rfl
def kn0_t3 : List (Nat × V) := [(0, .ptr (some (0, 0))), (4, .ptr (some (16, 0))), (10, .int .i64 1)]
def kn0_h3 : List (Nat × O) := [(0, kn0_b0_0), (9, kn0_b9_0), (16, kn0_b16_0), (21, kn0_b21_0)]
theorem kn0_e3 : runC Tryz.prog hkK 100000 80 (Code.sa (Code.sb (Code.sb (Code.sb (bodyOf Tryz.prog 5))))) ⟨⟨117, mkTr kn0_t2⟩, [21, 9]⟩ (mkH 27 kn0_h2) .norm 117 [21, 9] kn0_t3 96 kn0_h3 = true := by kernel_rfl
def kn0_b0_1 : O := .cells ⟨1, [.bool true], .nil, false, []⟩ 4
def kn0_t4 : List (Nat × V) := [(0, .ptr (some (0, 0))), (4, .ptr (some (16, 0)))]
def kn0_h4 : List (Nat × O) := [(0, kn0_b0_1), (9, kn0_b9_0), (16, kn0_b16_0), (21, kn0_b21_0)]
theorem kn0_e4 : runC Tryz.prog hkK 100000 80 (Code.sa (Code.sb (Code.sb (Code.sb (Code.sb (bodyOf Tryz.prog 5)))))) ⟨⟨117, mkTr kn0_t3⟩, [21, 9]⟩ (mkH 96 kn0_h3) .norm 117 [21, 9] kn0_t4 96 kn0_h4 = true := by kernel_rfl
def kn0_t5 : List (Nat × V) := [(0, .ptr (some (0, 0))), (4, .ptr (some (16, 0)))]
def kn0_h5 : List (Nat × O) := [(0, kn0_b0_1), (9, kn0_b9_0), (16, kn0_b16_0), (21, kn0_b21_0)]
theorem kn0_e5 : runC Tryz.prog hkK 100000 80 (Code.sb (Code.sb (Code.sb (Code.sb (Code.sb (bodyOf Tryz.prog 5)))))) ⟨⟨117, mkTr kn0_t4⟩, [21, 9]⟩ (mkH 96 kn0_h4) .ret 117 [21, 9] kn0_t5 96 kn0_h5 = true := by kernel_rfl
theorem kn0_code : CodeOk Tryz.prog none (bodyOf Tryz.prog 5) ⟨⟨117, .nil⟩, []⟩ ⟨0, .nil⟩ .ret ⟨⟨117, mkTr kn0_t5⟩, [21, 9]⟩ (mkH 96 kn0_h5) All All := CodeOk.cut (by kernel_rfl) (CodeOk.part hm hkK_ok kn0_e0) (CodeOk.cut (by kernel_rfl) (CodeOk.part hm hkK_ok kn0_e1) (CodeOk.cut (by kernel_rfl) (CodeOk.part hm hkK_ok kn0_e2) (CodeOk.cut (by kernel_rfl) (CodeOk.part hm hkK_ok kn0_e3) (CodeOk.cut (by kernel_rfl) (CodeOk.part hm hkK_ok kn0_e4) (CodeOk.part hm hkK_ok kn0_e5)))))
theorem kn0_ok : ∃ h2, FnOk Tryz.prog 5 [] ⟨0, .nil⟩ (.bool true) h2 (fun _ => True) (fun _ => True) :=
  ⟨_, FnOk.ofCode (fn := Tryz.f5) (c := bodyOf Tryz.prog 5) (args := []) (e := .ret) (f1 := ⟨⟨117, mkTr kn0_t5⟩, [21, 9]⟩) (vs := [.bool true]) (rs := [0]) Tryz.func5 (by kernel_rfl) kn0_code (fun _ h => by cases h) rfl (by kernel_rfl)⟩
end Go.Proofs.YtdfihilgbeogbaaGreat
