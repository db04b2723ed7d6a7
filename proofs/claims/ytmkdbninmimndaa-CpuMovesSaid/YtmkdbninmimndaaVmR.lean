/- From the virtual machine's run of a call to the row's contract. -/
import Derived.Test.YtmkdbninmimndaaVmQ
import Derived.Below
set_option linter.unusedVariables false
set_option linter.unusedSimpArgs false
namespace Go.Vm
variable {P : Program}

theorem Goes.below {N : Set'} {H H' : HF} {σ σ' : Ren} {w w' : World} {W : Set'} (g : Goes P N W H H' σ σ' w w') (hW : ∀ b, liveIn H b → ¬ W b) : RowKit.Below w.heap.size w w' :=
  ⟨g.os, g.tape, g.output, g.size, fun k hk => g.real k hk fun b l hb _ _ => hW b hb⟩

/-- A call without arguments. -/
theorem calls_closed {f : FuncId} {v : V} {h' : Heap} {R W : Set'} (hf : FnOk P f [] ⟨0, .nil⟩ v h' R W) (w : World) :
    Calls P f #[] w fun e w' => ∃ x σ', e = .returned x ∧ VRel σ' v x ∧ RowKit.Below w.heap.size w w' := by
  have p : Pre P ⟨0, .nil⟩ h' R W (fun _ => none) (fun _ => none) w :=
    ⟨fun b hb => by simp at hb, fun b _ => ⟨rfl, rfl⟩, ⟨fun b o h => (by cases h), fun a b la lb ⟨o, h, _⟩ => (by cases h), ⟨0, fun _ _ => ⟨rfl, rfl⟩⟩⟩⟩
  refine (callsIn_wide (n := 0)).1 (CallsIn.mono (hf.2 _ _ w p trivial) ?_)
  rintro e w' ⟨x, σ', H', rfl, hx, hs⟩
  exact ⟨x, σ', rfl, hx, hs.goes.below fun b ⟨o, h, _⟩ => by cases h⟩

def s0 : St := ⟨⟨0, .nil⟩, 0, [], []⟩
def isTrue : Option (V × St) → Bool
  | some (.bool b, _) => b
  | _ => false
theorem isTrue_some {x : Option (V × St)} (h : isTrue x = true) : ∃ s, x = some (.bool true, s) := by
  unfold isTrue at h
  split at h
  · rename_i b s; exact ⟨s, by rw [h]⟩
  · cases h
/-- A closed sentence that the machine runs. -/
theorem closed_trueH (hm : P.follows .mixedOrders = true) {hk : Hook} (hh : HookOk P hk) {f : FuncId} {L n : Nat} (hr : isTrue (evInvH P hk L n (.fn f) [] s0) = true) (w : World) :
    Calls P f #[] w fun e w' => e = .returned (.bool true) ∧ RowKit.Below w.heap.size w w' := by
  obtain ⟨s, hs⟩ := isTrue_some hr
  refine (calls_closed ((evInvH_good hm hh L n).fn _ _ _ _ _ hs) w).mono ?_
  rintro e w' ⟨x, σ', rfl, hx, hg⟩
  exact ⟨by rw [hx.2]; rfl, hg⟩
/-- A closed sentence that the machine runs. -/
theorem closed_true (hm : P.follows .mixedOrders = true) {f : FuncId} {L n : Nat} (hr : isTrue (evInv P L n (.fn f) [] s0) = true) (w : World) :
    Calls P f #[] w fun e w' => e = .returned (.bool true) ∧ RowKit.Below w.heap.size w w' := by
  obtain ⟨s, hs⟩ := isTrue_some hr
  refine (calls_closed ((evInv_good hm L n).fn _ _ _ _ _ hs) w).mono ?_
  rintro e w' ⟨x, σ', rfl, hx, hg⟩
  exact ⟨by rw [hx.2]; rfl, hg⟩

end Go.Vm
