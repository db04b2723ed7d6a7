/- Tables of pages: the order of places, and the sort. -/
import Derived.Test.YtkfhdaimememiaaH
import Derived.Test.YtkfhdaimememiaaLay
import Derived.Test.YtkfhdaimememiaaV4
import Derived.Test.YtkfhdaimememiaaV2
set_option linter.unusedVariables false
set_option linter.unusedSimpArgs false
set_option linter.unusedSimpArgs false
set_option maxRecDepth 100000
set_option linter.unusedVariables false
set_option linter.unusedSimpArgs false
namespace Go.Proofs.Ytkfhdaimememiaa
open Go Go.Vm Go.Proofs Go.Shelf Go.RowKit Go.Lib Go.Sort
def spI1 (i : Fin 512) : Int := ((i.val / 32 : Nat) : Int)
def spI2 (i : Fin 512) : Int := ((i.val % 32 : Nat) : Int)
def spC (x y : Fin 512) : Int := (spI1 x - spI1 y) * 256 + spI2 x - spI2 y
theorem spC_lt (x y : Fin 512) : ltOf spC x y = decide (x.val < y.val) := by
  have hx := x.isLt
  have hy := y.isLt
  unfold ltOf spC spI1 spI2
  exact decide_eq_decide.2 (by omega)
theorem spC_swo : SWO (ltOf spC) where
  irrefl x := by rw [spC_lt]; simp
  trans x y z h1 h2 := by rw [spC_lt] at *; simp at *; omega
  ntrans x y z h1 h2 := by rw [spC_lt] at *; simp at *; omega
set_option maxHeartbeats 1000000 in
theorem closure42 (x1 x2 y1 y2 : Int) (hx1 : 0 ≤ x1 ∧ x1 < 16) (hx2 : 0 ≤ x2 ∧ x2 < 32) (hy1 : 0 ≤ y1 ∧ y1 < 16) (hy2 : 0 ≤ y2 ∧ y2 < 32) (W : World) : Calls Try.prog 42 #[.agg #[.int .i64 x1, .int .i64 x2], .agg #[.int .i64 y1, .int .i64 y2]] W fun e w' => e = .returned (.int .i64 ((x1 - y1) * 256 + x2 - y2)) ∧ ∃ q os', w' = grow (W.drewN q) os' := by
  go_enter Try.func42, Try.ntmps42
  go_wp2
  go_ret
  exact ⟨rfl, 0, _, by rw [alloc_eq_grow, alloc_eq_grow, grow_grow]; rfl⟩
theorem sortW_ok {h : Heap} {b : Nat} {c : Blk} {e : TypeId} (hb : h.get b = some (.cells c e)) (zs : List (Fin 512)) (hsz : zs.length * 2 ≤ c.size) (hz : ∀ j, j < zs.length * 2 → c.get j = (flP spI1 spI2 zs).getD j undefV) (hro : c.ro = false) (hbig : zs.length < 4611686018427387904) (cap : Nat) (ex : Bool) :
    SF Try.prog 41 [.slice (some (b, 0)) zs.length cap ex, .func 42 [] []] h (fun x => x = b) (fun x => x = b) fun v h' => v = undefV ∧ ∃ zs' : List (Fin 512), zs'.Perm zs ∧ zs'.Pairwise (fun x y => ltOf spC y x = false) ∧ h' = h.set b (.cells (c.puts 0 (flP spI1 spI2 zs')) e) :=
  sortf_ok spI1 spI2 laysSortF (fun w => rfl) (fun w => rfl) spC spC_swo 42 (fun args w => enters_of Try.func42 (by kernel_rfl) rfl args w) (fun x y W => closure42 _ _ _ _ (by have := x.isLt; unfold spI1; omega) (by unfold spI2; omega) (by have := y.isLt; unfold spI1; omega) (by unfold spI2; omega) W) hb zs hsz hz hro hbig cap ex
def isUnit : Option (V × St) → Bool
  | some (.tuple [], _) => true
  | _ => false
theorem isUnit_some {x : Option (V × St)} (h : isUnit x = true) : ∃ s, x = some (undefV, s) := by
  unfold isUnit at h
  split at h
  · exact ⟨_, rfl⟩
  · cases h
theorem sort_none_run : isUnit (evInv Try.prog 1000 40 (.fn 41) [.slice none 0 0 true, .func 42 [] []] s0) = true := by kernel_rfl
theorem sort_none (h : Heap) (R W : Set') : SF Try.prog 41 [.slice none 0 0 true, .func 42 [] []] h R W fun v h' => v = undefV ∧ h' = h := by
  obtain ⟨s, hs⟩ := isUnit_some sort_none_run
  exact ⟨undefV, h, ⟨rfl, rfl⟩, ((evInv_good hm 1000 40).fn _ _ _ _ _ hs).plain rfl rfl h R W⟩
end Go.Proofs.Ytkfhdaimememiaa
