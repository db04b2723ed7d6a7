/- What is owed of operations, of calls and of code; steps one behind the other; operations in their order. -/
import Derived.Test.YtmkdbninmimndaaVmJ
import Derived.OrdersIn
import Derived.RangeFuncLeaves
import Derived.RangeFuncRecord
set_option linter.unusedVariables false
set_option linter.unusedSimpArgs false
namespace Go.Vm
variable {P : Program}

def FW (r : Option Nat) : Fence := { fn := fun _ => True, depth := none, alive := false, round := r }

abbrev Set' := Nat → Prop
def New (h h' : Heap) : Set' := fun b => h.n ≤ b ∧ b < h'.n
def Old (h : Heap) (W : Set') : Set' := fun b => b < h.n ∧ W b

/-- What a virtual step may change. -/
structure VF (h h' : Heap) (W : Set') : Prop where
  n : h.n ≤ h'.n
  get : ∀ b, b < h.n → ¬ W b → h'.get b = h.get b
structure Pre (P : Program) (h h' : Heap) (R W : Set') (H : HF) (σ : Ren) (w : World) : Prop where
  agree : ∀ b, b < h.n → R b ∨ W b → H b = h.get b
  fresh : ∀ b, New h h' b → σ b = none ∧ H b = none
  inv : Inv P H σ w
structure Step (P : Program) (h h' : Heap) (W : Set') (H H' : HF) (σ σ' : Ren) (w w' : World) : Prop where
  goes : Goes P (New h h') (Old h W) H H' σ σ' w w'
  get : ∀ b, New h h' b ∨ Old h W b → H' b = h'.get b

theorem VF.refl (h : Heap) (W : Set') : VF h h W := ⟨Nat.le_refl _, fun _ _ _ => rfl⟩
theorem VF.trans {h h₁ h₂ : Heap} {W : Set'} (v₁ : VF h h₁ W) (v₂ : VF h₁ h₂ W) : VF h h₂ W :=
  ⟨Nat.le_trans v₁.n v₂.n, fun b hb hw => by rw [v₂.get b (Nat.lt_of_lt_of_le hb v₁.n) hw, v₁.get b hb hw]⟩
theorem VF.mono {h h' : Heap} {W W' : Set'} (v : VF h h' W) (hm : ∀ b, W b → W' b) : VF h h' W' := ⟨v.n, fun b hb hw => v.get b hb fun h => hw (hm b h)⟩
theorem Step.refl {h : Heap} {W : Set'} {H : HF} {σ : Ren} {w : World} (hi : Inv P H σ w) (ha : ∀ b, b < h.n → W b → H b = h.get b) : Step P h h W H H σ σ w w :=
  ⟨Goes.refl hi fun b hb => by unfold New at hb; omega, fun b hb => by
    rcases hb with hb | hb
    · unfold New at hb; omega
    · exact ha b hb.1 hb.2⟩
theorem Pre.fst {h h₁ h₂ : Heap} {R W : Set'} {H : HF} {σ : Ren} {w : World} (p : Pre P h h₂ R W H σ w) (hn : h₁.n ≤ h₂.n) : Pre P h h₁ R W H σ w :=
  ⟨p.agree, fun b hb => p.fresh b ⟨hb.1, Nat.lt_of_lt_of_le hb.2 hn⟩, p.inv⟩
theorem Pre.snd {h h₁ h₂ : Heap} {R W : Set'} {H H₁ : HF} {σ σ₁ : Ren} {w w₁ : World} (p : Pre P h h₂ R W H σ w) (v₁ : VF h h₁ W) (s : Step P h h₁ W H H₁ σ σ₁ w w₁) : Pre P h₁ h₂ R W H₁ σ₁ w₁ where
  agree := fun b hb hr => by
    by_cases hw : New h h₁ b ∨ Old h W b
    · exact s.get b hw
    · have hbn : b < h.n := by
        rcases Nat.lt_or_ge b h.n with h' | h'
        · exact h'
        · exact absurd (.inl ⟨h', hb⟩) hw
      have hnw : ¬ W b := fun h => hw (.inr ⟨hbn, h⟩)
      rw [s.goes.virt b (fun h => hw (.inr h)) (fun h => hw (.inl h)), p.agree b hbn hr, v₁.get b hbn hnw]
  fresh := fun b hb => by
    have hb' : New h h₂ b := ⟨Nat.le_trans v₁.n hb.1, hb.2⟩
    have hn1 : ¬ New h h₁ b := fun h => by have := h.2; have := hb.1; omega
    have hf := p.fresh b hb'
    constructor
    · cases hs : σ₁ b with
      | none => rfl
      | some l =>
        rcases s.goes.dom b l hs with h' | h'
        · rw [hf.1] at h'; cases h'
        · exact absurd h' hn1
    · rw [s.goes.virt b (fun h => by have := h.1; have := hb'.1; omega) hn1]; exact hf.2
  inv := s.goes.inv
theorem Step.trans {h h₁ h₂ : Heap} {W : Set'} {H H₁ H₂ : HF} {σ σ₁ σ₂ : Ren} {w w₁ w₂ : World} {R : Set'} (p : Pre P h h₂ R W H σ w) (v₁ : VF h h₁ W) (v₂ : VF h₁ h₂ W) (s₁ : Step P h h₁ W H H₁ σ σ₁ w w₁) (s₂ : Step P h₁ h₂ W H₁ H₂ σ₁ σ₂ w₁ w₂) :
    Step P h h₂ W H H₂ σ σ₂ w w₂ where
  goes := by
    have n1 := v₁.n
    have n2 := v₂.n
    refine Goes.trans s₁.goes s₂.goes (fun b => ?_) (fun b hb => .inl hb) (fun b hb => ?_) (fun b hb hl => ?_)
    · unfold New; omega
    · rcases Nat.lt_or_ge b h.n with h' | h'
      · exact .inl ⟨h', hb.2⟩
      · have := hb.1; exact .inr ⟨h', by omega⟩
    · obtain ⟨o, ho, _⟩ := hl
      rw [(p.fresh b hb).2] at ho; cases ho
  get := fun b hb => by
    by_cases hw : New h₁ h₂ b ∨ Old h₁ W b
    · exact s₂.get b hw
    · rw [s₂.goes.virt b (fun h => hw (.inr h)) (fun h => hw (.inl h))]
      have hb1 : b < h₁.n := by
        rcases Nat.lt_or_ge b h₁.n with h' | h'
        · exact h'
        · rcases hb with hb | hb
          · exact absurd (.inl ⟨h', hb.2⟩) hw
          · have := hb.1; have := v₁.n; omega
      have hnw : ¬ W b := fun h => hw (.inr ⟨hb1, h⟩)
      rw [v₂.get b hb1 hnw]
      refine s₁.get b ?_
      rcases hb with hb | hb
      · exact .inl ⟨hb.1, hb1⟩
      · exact absurd hb.2 hnw
theorem Pre.mono {h h' : Heap} {R W R' W' : Set'} {H : HF} {σ : Ren} {w : World} (p : Pre P h h' R' W' H σ w) (hr : ∀ b, R b → R' b) (hw : ∀ b, W b → W' b) : Pre P h h' R W H σ w :=
  ⟨fun b hb h => p.agree b hb (h.imp (hr b) (hw b)), p.fresh, p.inv⟩
theorem Step.more {h h' : Heap} {R W W' : Set'} {H H' : HF} {σ σ' : Ren} {w w' : World} (s : Step P h h' W H H' σ σ' w w') (v : VF h h' W) (p : Pre P h h' R W' H σ w) (hm : ∀ b, W b → W' b) : Step P h h' W' H H' σ σ' w w' :=
  ⟨s.goes.more fun b hb => ⟨hb.1, hm b hb.2⟩, fun b hb => by
    by_cases hw : New h h' b ∨ Old h W b
    · exact s.get b hw
    · rcases hb with hb | hb
      · exact absurd (.inl hb) hw
      · have hnw : ¬ W b := fun h => hw (.inr ⟨hb.1, h⟩)
        rw [s.goes.virt b (fun h => hw (.inr h)) (fun h => hw (.inl h)), p.agree b hb.1 (.inr hb.2), v.get b hb.1 hnw]⟩
theorem Step.world {h h' : Heap} {W : Set'} {H H' : HF} {σ σ' : Ren} {w w' w'' : World} (s : Step P h h' W H H' σ σ' w w') (e1 : w''.heap = w'.heap) (e2 : w''.os = w'.os) (e3 : w''.tape = w'.tape) (e4 : w''.output = w'.output) : Step P h h' W H H' σ σ' w w'' :=
  ⟨s.goes.heap e1 e2 e3 e4, s.get⟩

/-! ### contracts -/
/-- A call of a function. -/
def FnOk (P : Program) (f : FuncId) (args : List V) (h : Heap) (v : V) (h' : Heap) (R W : Set') : Prop :=
  VF h h' W ∧ ∀ H σ w, Pre P h h' R W H σ w → V.onL σ args →
    CallsIn (FW none) 0 P f (V.reL σ args).toArray w fun e w' => ∃ x σ' H', e = .returned x ∧ VRel σ' v x ∧ Step P h h' W H H' σ σ' w w'
/-- A call of a loop's yield. -/
def RoundOk (P : Program) (l : Nat) (args : List V) (h : Heap) (v : V) (h' : Heap) (R W : Set') : Prop :=
  VF h h' W ∧ ∀ H σ w, Pre P h h' R W H σ w → V.onL σ args → σ.is l →
    ∃ fn tmps assign body, (Instr.yield (σ.b l) (V.reL σ args).toArray).run P w = .ok (.round (σ.b l) fn tmps assign body) w ∧
      RoundIn (FW none) 0 P (σ.b l) fn tmps assign body w fun e w' => ∃ x σ' H', e = .returned x ∧ VRel σ' v x ∧ Step P h h' W H H' σ σ' w w'
/-- An operation. -/
def OpOk (P : Program) (rd : Option Nat) (o : Oper) (tm : Tm) (h : Heap) (v : V) (h' : Heap) (R W : Set') : Prop :=
  VF h h' W ∧ ∀ H σ w a (K : Act → World → Prop) Q, Pre P h h' R W H σ w → EvOn σ tm o a.eval →
    (∀ x σ' H' w', VRel σ' v x → Step P h h' W H H' σ σ' w w' → K (a.put o.dst x) w') → o.wpIn (FW rd) 0 P a w K Q

theorem FnOk.mono {f : FuncId} {args : List V} {h h' : Heap} {v : V} {R W R' W' : Set'} (hf : FnOk P f args h v h' R W) (hr : ∀ b, R b → R' b) (hw : ∀ b, W b → W' b) : FnOk P f args h v h' R' W' :=
  ⟨hf.1.mono hw, fun H σ w p hon => (hf.2 H σ w (p.mono hr hw) hon).mono fun e w' ⟨x, σ', H', h1, h2, h3⟩ => ⟨x, σ', H', h1, h2, h3.more hf.1 p hw⟩⟩
theorem RoundOk.mono {l : Nat} {args : List V} {h h' : Heap} {v : V} {R W R' W' : Set'} (hf : RoundOk P l args h v h' R W) (hr : ∀ b, R b → R' b) (hw : ∀ b, W b → W' b) : RoundOk P l args h v h' R' W' :=
  ⟨hf.1.mono hw, fun H σ w p hon hl => by
    obtain ⟨fn, tmps, assign, body, h1, h2⟩ := hf.2 H σ w (p.mono hr hw) hon hl
    exact ⟨fn, tmps, assign, body, h1, h2.mono fun e w' ⟨x, σ', H', h1, h2, h3⟩ => ⟨x, σ', H', h1, h2, h3.more hf.1 p hw⟩⟩⟩
theorem OpOk.mono {rd : Option Nat} {o : Oper} {tm : Tm} {h h' : Heap} {v : V} {R W R' W' : Set'} (hf : OpOk P rd o tm h v h' R W) (hr : ∀ b, R b → R' b) (hw : ∀ b, W b → W' b) : OpOk P rd o tm h v h' R' W' :=
  ⟨hf.1.mono hw, fun H σ w a K Q p he hK => hf.2 H σ w a K Q (p.mono hr hw) he fun x σ' H' w' h1 h2 => hK x σ' H' w' h1 (h2.more hf.1 p hw)⟩

theorem noDefer_of_evP {tm : Tm} {o : Oper} {h : Heap} {pr : Pr} (hv : evP P tm h o = some pr) : ∀ c, o.op ≠ .defer c := by
  intro c e
  unfold evP at hv
  rw [e] at hv
  cases hv

/-- A plain operation meets its contract. -/
theorem opOk_prim {rd : Option Nat} {o : Oper} {tm : Tm} {h : Heap} {pr : Pr} (hv : evP P tm h o = some pr) {R W : Set'} (hr : ∀ b, b ∈ pr.r → R b) (hw : ∀ b, b ∈ pr.w → W b) : OpOk P rd o tm h pr.v pr.h R W := by
  obtain ⟨hn, hget, hall, hok⟩ := evP_ok hv
  have hvf : VF h pr.h (· ∈ pr.w) := ⟨hn, hget⟩
  refine ⟨hvf.mono hw, fun H σ w a K Q p he hK => ?_⟩
  obtain ⟨σ', w', H', nx, x, hrun, hnx, hx, hg, hg'⟩ := hok H σ w a.eval he (fun b hb => p.agree b (hall b hb) (hb.imp (hr b) (hw b))) (fun b h1 h2 => p.fresh b ⟨h1, h2⟩) p.inv
  have hs : Step P h pr.h (· ∈ pr.w) H H' σ σ' w w' := by
    refine ⟨hg.more (W' := Old h (· ∈ pr.w)) fun b hb => ⟨hall b (.inr hb), hb⟩, fun b hb => hg' b (hb.imp (fun h => h) fun h => h.2)⟩
  have hK' := hK x σ' H' w' hx (hs.more hvf p hw)
  refine ⟨fun _ _ => trivial, ?_⟩
  rw [Oper.semAt_eq _ _ _ (noDefer_of_evP hv), hrun]
  rcases hnx with rfl | ⟨rfl, rfl⟩
  · exact hK'
  · exact hK'

end Go.Vm
