/- CpuFlat: texts of bytes, the law's loop. -/
import Derived.Test.YtmkdbninmimndaaC3
import Derived.Test.YtmkdbninmimndaaKn
import Derived.Test.YtmkdbninmimndaaV4
set_option linter.unusedVariables false
set_option maxRecDepth 100000
namespace Go.Proofs.Ytmkdbninmimndaa
open Go Go.Vm
theorem known_ok (h : Heap) (R W : Set') : SF Try.prog 10 [] h R W fun v h' => v = .bool true ∧ h' = h := SF.closedH hm noHook_ok known_run h R W
def byteOf : V → UInt8
  | .int _ n => UInt8.ofNat n.toNat
  | _ => 0
def strB (l : List V) : ByteArray := ⟨⟨l.map byteOf⟩⟩
def Byt (l : List V) : Prop := ∀ v ∈ l, ∃ n : Int, v = .int .u8 n ∧ 0 ≤ n ∧ n ≤ 255
theorem strL_of : ∀ {l : List V}, Byt l → strL l = some (l.map byteOf)
  | [], _ => rfl
  | v :: r, h => by
    obtain ⟨n, rfl, _⟩ := h v (by simp)
    rw [strL, strL_of fun v hv => h v (by simp [hv])]
    rfl
theorem conv_lv {h : Heap} {v : V} {l : List V} (hv : LV h v l) (hl : Byt l) : ∃ rs, convV Try.prog 23 9 v h = some (.str (strB l), rs) := by
  rcases hv with ⟨rfl, rfl | ⟨a, rfl⟩⟩ | ⟨b, o, cap, ex, c, ce, rfl, hb, hs, hg⟩
  · exact ⟨[], by simp only [convV, Try.underlying23, Try.underlying9, Try.underlying5]; rfl⟩
  · exact ⟨[], by simp only [convV, Try.underlying23, Try.underlying9, Try.underlying5]; rfl⟩
  · exact ⟨[b], by simp only [convV, Try.underlying23, Try.underlying9, Try.underlying5, hb, w_ble_t hs, hg, strL_of hl]; rfl⟩
theorem sb_neq (a : ByteArray) : strBin .neq a a = some (.bool false) := by
  show some (V.bool (!eqB a.data.toList a.data.toList)) = _
  rw [eqB_eq]; simp
end Go.Proofs.Ytmkdbninmimndaa
