/- CpuMoves: the walk. -/
import Derived.Test.YtmkdbninmimndaaM3
set_option linter.unusedVariables false
set_option maxRecDepth 100000
namespace Go.Proofs.Ytmkdbninmimndaa
open Go Go.Vm
def WH (H : Heap) : Set' := fun b => H.n ≤ b
theorem LV.cells {h : Heap} {v : V} {l : List V} (hv : LV h v l) : v.cellsV = [v] := by rcases hv with ⟨_, rfl | ⟨a, rfl⟩⟩ | ⟨b, o, cap, ex, c, ce, rfl, _⟩ <;> rfl
theorem allOne_byt : ∀ {l : List V}, Byt l → allOne l = true
  | [], _ => rfl
  | v :: l, h => by
    obtain ⟨n, rfl, _⟩ := h v (by simp)
    have := allOne_byt (l := l) fun v hv => h v (by simp [hv])
    simp only [allOne, V.one, this]
theorem mkI {R W : Set'} {tm : Tm} {h : Heap} {K : V → Heap → Prop} (x : Operand) : LOp (Try.prog : MP) R W tm h (.makeInterface 32 x) K = onO (evV tm x) fun a => K (.iface 32 a) h := by
  unfold LOp SOp bare; simp only [evP, ifaceV, Try.underlying32]
  cases evV tm x with
  | none => simp [onO]
  | some a => simp [onO, one, allB]
theorem conv_lvB {h : Heap} {v : V} {l : List V} (hv : LV h v l) (hl : Byt l) : ∃ rs, (∀ b ∈ rs, b < h.n) ∧ ∀ g, (∀ b, b < h.n → g.get b = h.get b) → convV Try.prog 23 9 v g = some (.str (strB l), rs) := by
  rcases hv with ⟨rfl, rfl | ⟨a, rfl⟩⟩ | ⟨b, o, cap, ex, c, ce, rfl, hb, hs, hg⟩
  · exact ⟨[], (fun b hb => by cases hb), fun g hg => by simp only [convV, Try.underlying23, Try.underlying9, Try.underlying5]; rfl⟩
  · exact ⟨[], (fun b hb => by cases hb), fun g hg => by simp only [convV, Try.underlying23, Try.underlying9, Try.underlying5]; rfl⟩
  · exact ⟨[b], fun b' hb' => by simp at hb'; rw [hb']; exact Heap.lt_of_get hb, fun g hk => by rw [← hk _ (Heap.lt_of_get hb)] at hb; simp only [convV, Try.underlying23, Try.underlying9, Try.underlying5, hb, w_ble_t hs, hg, strL_of hl]; rfl⟩
end Go.Proofs.Ytmkdbninmimndaa
