/- Tables of calls for the machine: closed calls that were run by themselves. -/
import Derived.Test.YtmkdbninmimndaaVmR
set_option linter.unusedVariables false
set_option linter.unusedSimpArgs false
namespace Go.Vm
variable {P : Program}

theorem Inv.kept' {H : HF} {σ : Ren} {w w' : World} (hi : Inv P H σ w) (hr : ∀ k, k < w.heap.size → w'.heap[k]? = w.heap[k]?) : Inv P H σ w' := by
  refine ⟨fun b o hb hd => ?_, hi.inj, hi.fin⟩
  obtain ⟨l, hl, hb'⟩ := hi.rel b o hb hd
  refine ⟨l, hl, ?_⟩
  rw [hr _ (hi.lt ⟨o, hb, hd⟩ hl)]
  exact hb'
/-- Values that name no block. -/
def V.gnd : V → Bool
  | .bool _ => true
  | .int _ _ => true
  | .str _ => true
  | .ptr none => true
  | .slice none _ _ _ => true
  | .map none => true
  | .nilFunc => true
  | .nilIface => true
  | .tuple [] => true
  | _ => false
theorem V.gnd_on {v : V} (h : v.gnd = true) (σ τ : Ren) : v.on σ ∧ v.re σ = v.re τ := by
  unfold V.gnd at h
  split at h <;> first | exact ⟨trivial, rfl⟩ | cases h
def gndL : List V → Bool
  | [] => true
  | v :: r => match v.gnd with
    | true => gndL r
    | false => false
theorem gndL_on {l : List V} (h : gndL l = true) (σ τ : Ren) : V.onL σ l ∧ V.reL σ l = V.reL τ l := by
  induction l with
  | nil => exact ⟨trivial, rfl⟩
  | cons v r ih =>
    unfold gndL at h
    split at h
    · rename_i hv
      have h1 := V.gnd_on hv σ τ
      have h2 := ih h
      exact ⟨⟨h1.1, h2.1⟩, by simp [V.reL, h1.2, h2.2]⟩
    · cases h
/-- What a call with plain arguments does from an empty heap, it does from any: what it made is left behind. -/
theorem FnOk.plain {f : FuncId} {args : List V} {v : V} {h' : Heap} {R W : Set'} (ha : gndL args = true) (hv : v.gnd = true) (hf : FnOk P f args ⟨0, .nil⟩ v h' R W) (h : Heap) (R' W' : Set') : FnOk P f args h v h R' W' := by
  refine ⟨VF.refl h W', fun H σ w p hon => ?_⟩
  have p0 : Pre P ⟨0, .nil⟩ h' R W (fun _ => none) (fun _ => none) w :=
    ⟨fun b hb => by simp at hb, fun b _ => ⟨rfl, rfl⟩, ⟨fun b o h => (by cases h), fun a b la lb ⟨o, h, _⟩ => (by cases h), ⟨0, fun _ _ => ⟨rfl, rfl⟩⟩⟩⟩
  have hg := gndL_on ha (fun _ => none) σ
  have hc := hf.2 (fun _ => none) (fun _ => none) w p0 hg.1
  rw [hg.2] at hc
  refine CallsIn.mono hc ?_
  rintro e w' ⟨x, σ', H', rfl, hx, hs⟩
  have hreal : ∀ k, k < w.heap.size → w'.heap[k]? = w.heap[k]? := fun k hk => hs.goes.real k hk fun b l ⟨o, ho, _⟩ => by cases ho
  have hvv := V.gnd_on hv σ σ'
  refine ⟨x, σ, H, rfl, ⟨hvv.1, hx.2.trans hvv.2.symm⟩, ⟨⟨Ren.le_refl _, fun _ _ h => .inl h, p.inv.kept' hreal, fun _ _ _ => rfl, fun _ _ h => h, fun b l hn => ?_, fun k hk _ => hreal k hk, hs.goes.size, hs.goes.os, hs.goes.tape, hs.goes.output⟩, fun b hb => ?_⟩⟩
  · unfold New at hn; omega
  · rcases hb with hb | hb
    · unfold New at hb; omega
    · exact p.agree b hb.1 (.inr hb.2)

/-! ### tables -/
/-- A closed sentence that is true. -/
def hkTrue (f : FuncId) : Hook := fun g args h => match Nat.beq g f, args with
  | true, [] => some ⟨.bool true, h, [], []⟩
  | _, _ => none
/-- A sentence of a pointer that is true of nil. -/
def hkNil (f : FuncId) : Hook := fun g args h => match Nat.beq g f, args with
  | true, [.ptr none] => some ⟨.bool true, h, [], []⟩
  | _, _ => none
def hkOr (a b : Hook) : Hook := fun g args h => match a g args h with
  | some r => some r
  | none => b g args h
theorem hkOr_ok {a b : Hook} (ha : HookOk P a) (hb : HookOk P b) : HookOk P (hkOr a b) := by
  intro f args h pr hp
  unfold hkOr at hp
  split at hp
  · rename_i r hr; cases hp; exact ha _ _ _ _ hr
  · exact hb _ _ _ _ hp
theorem hkTrue_ok (hm : P.follows .mixedOrders = true) {hk : Hook} (hh : HookOk P hk) {f : FuncId} {L n : Nat} (hr : isTrue (evInvH P hk L n (.fn f) [] s0) = true) : HookOk P (hkTrue f) := by
  intro g args h pr hp
  unfold hkTrue at hp
  split at hp
  · rename_i hb
    cases hp
    obtain rfl := Nat.eq_of_beq_eq_true hb
    obtain ⟨s, hs⟩ := isTrue_some hr
    exact ((evInvH_good hm hh L n).fn _ _ _ _ _ hs).plain rfl rfl h _ _
  · cases hp
theorem hkNil_ok (hm : P.follows .mixedOrders = true) {hk : Hook} (hh : HookOk P hk) {f : FuncId} {L n : Nat} (hr : isTrue (evInvH P hk L n (.fn f) [.ptr none] s0) = true) : HookOk P (hkNil f) := by
  intro g args h pr hp
  unfold hkNil at hp
  split at hp
  · rename_i hb
    cases hp
    obtain rfl := Nat.eq_of_beq_eq_true hb
    obtain ⟨s, hs⟩ := isTrue_some hr
    exact ((evInvH_good hm hh L n).fn _ _ _ _ _ hs).plain rfl rfl h _ _
  · cases hp

end Go.Vm
