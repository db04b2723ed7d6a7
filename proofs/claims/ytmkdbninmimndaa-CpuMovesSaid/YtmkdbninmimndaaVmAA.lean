/- A call of its own memory alone, made from any heap. -/
import Derived.Test.YtmkdbninmimndaaVmZ
set_option linter.unusedVariables false
set_option linter.unusedSimpArgs false
namespace Go.Vm
variable {P : Program} {M : MP}

theorem Inv.kept {H : HF} {σ : Ren} {w w' : World} (hi : Inv P H σ w) (hr : ∀ k, k < w.heap.size → w'.heap[k]? = w.heap[k]?) : Inv P H σ w' := by
  refine ⟨fun b o hb hd => ?_, hi.inj, hi.fin⟩
  obtain ⟨l, hl, hb'⟩ := hi.rel b o hb hd
  refine ⟨l, hl, ?_⟩
  rw [hr _ (hi.lt ⟨o, hb, hd⟩ hl)]
  exact hb'

/-- What a call without arguments does from an empty heap, it does from any: what it made is left behind. -/
theorem FnOk.closed {f : FuncId} {b : Bool} {h' : Heap} {R W : Set'} (hf : FnOk P f [] ⟨0, .nil⟩ (.bool b) h' R W) (h : Heap) (R' W' : Set') : FnOk P f [] h (.bool b) h R' W' := by
  refine ⟨VF.refl h W', fun H σ w p hon => ?_⟩
  have p0 : Pre P ⟨0, .nil⟩ h' R W (fun _ => none) (fun _ => none) w :=
    ⟨fun b hb => by simp at hb, fun b _ => ⟨rfl, rfl⟩, ⟨fun b o h => (by cases h), fun a b la lb ⟨o, h, _⟩ => (by cases h), ⟨0, fun _ _ => ⟨rfl, rfl⟩⟩⟩⟩
  have hc := hf.2 (fun _ => none) (fun _ => none) w p0 trivial
  refine CallsIn.mono (show CallsIn (FW none) 0 P f (V.reL σ []).toArray w _ from hc) ?_
  rintro e w' ⟨x, σ', H', rfl, hx, hs⟩
  have hreal : ∀ k, k < w.heap.size → w'.heap[k]? = w.heap[k]? := fun k hk => hs.goes.real k hk fun b l ⟨o, ho, _⟩ => by cases ho
  refine ⟨x, σ, H, rfl, ⟨trivial, hx.2⟩, ⟨⟨Ren.le_refl _, fun _ _ h => .inl h, p.inv.kept hreal, fun _ _ _ => rfl, fun _ _ h => h, fun b l hn => ?_, fun k hk _ => hreal k hk, hs.goes.size, hs.goes.os, hs.goes.tape, hs.goes.output⟩, fun b hb => ?_⟩⟩
  · unfold New at hn; omega
  · rcases hb with hb | hb
    · unfold New at hb; omega
    · exact p.agree b hb.1 (.inr hb.2)
theorem SF.closed (hm : P.follows .mixedOrders = true) {f : FuncId} {L n : Nat} (hr : isTrue (evInv P L n (.fn f) [] s0) = true) (h : Heap) (R W : Set') : SF (P : MP) f [] h R W fun v h' => v = .bool true ∧ h' = h := by
  obtain ⟨s, hs⟩ := isTrue_some hr
  exact ⟨.bool true, h, ⟨rfl, rfl⟩, ((evInv_good hm L n).fn _ _ _ _ _ hs).closed h R W⟩
/-- A call that the machine runs. -/
theorem SF.run (hm : P.follows .mixedOrders = true) {f : FuncId} {L n : Nat} {args : List V} {s : St} {v : V} {s' : St} (hr : evInv P L n (.fn f) args s = some (v, s')) : ∃ R W : Set', FnOk P f args s.h v s'.h R W := ⟨_, _, (evInv_good hm L n).fn _ _ _ _ _ hr⟩

/-- A call with numbers alone. -/
theorem calls_flat {f : FuncId} {args : List V} {v : V} {h' : Heap} {R W : Set'} (hf : FnOk P f args ⟨0, .nil⟩ v h' R W) (ho : V.onL (fun _ => none) args) (w : World) :
    Calls P f (V.reL (fun _ => none) args).toArray w fun e w' => ∃ x σ', e = .returned x ∧ VRel σ' v x ∧ RowKit.Below w.heap.size w w' := by
  have p : Pre P ⟨0, .nil⟩ h' R W (fun _ => none) (fun _ => none) w :=
    ⟨fun b hb => by simp at hb, fun b _ => ⟨rfl, rfl⟩, ⟨fun b o h => (by cases h), fun a b la lb ⟨o, h, _⟩ => (by cases h), ⟨0, fun _ _ => ⟨rfl, rfl⟩⟩⟩⟩
  refine (callsIn_wide (n := 0)).1 (CallsIn.mono (hf.2 _ _ w p ho) ?_)
  rintro e w' ⟨x, σ', H', rfl, hx, hs⟩
  exact ⟨x, σ', rfl, hx, hs.goes.below fun b ⟨o, h, _⟩ => by cases h⟩
theorem law_true {f : FuncId} {args : List V} {R W : Set'} (hs : SF M f args ⟨0, .nil⟩ R W fun v _ => v = .bool true) (ho : V.onL (fun _ => none) args) (w : World) :
    Calls M.P f (V.reL (fun _ => none) args).toArray w fun e w' => e = .returned (.bool true) ∧ RowKit.Below w.heap.size w w' := by
  have p : PreU M.P ⟨0, .nil⟩ R W (fun _ => none) (fun _ => none) w :=
    ⟨fun b hb => by simp at hb, fun b _ => ⟨rfl, rfl⟩, ⟨fun b o h => (by cases h), fun a b la lb ⟨o, h, _⟩ => (by cases h), ⟨0, fun _ _ => ⟨rfl, rfl⟩⟩⟩⟩
  refine (callsIn_wide (n := 0)).1 (CallsIn.mono (hs.all _ _ w p ho) ?_)
  rintro e w' ⟨x, σ', H', v, h', rfl, vf, rfl, hx, hst⟩
  exact ⟨by rw [hx.2]; rfl, hst.goes.below fun b ⟨o, h, _⟩ => by cases h⟩
/-- A call that the machine runs, where all may be read and written. -/
theorem SF.eval (hm : P.follows .mixedOrders = true) {f : FuncId} {L n : Nat} {args : List V} {h : Heap} {v : V} {s' : St} (hr : evInv P L n (.fn f) args ⟨h, 0, [], []⟩ = some (v, s')) {R W : Set'} (hR : ∀ b, R b) (hW : ∀ b, W b) : SF (P : MP) f args h R W fun v' h' => v' = v ∧ h' = s'.h :=
  ⟨v, s'.h, ⟨rfl, rfl⟩, ((evInv_good hm L n).fn _ _ _ _ _ hr).mono (fun b _ => hR b) (fun b _ => hW b)⟩

theorem bneI (a b : Int) : (a != b) = !(a == b) := rfl
theorem ble_succ (a b : Nat) : Nat.ble (a + 1) b = Nat.blt a b := rfl
theorem puts_one (b : Blk) (o : Nat) (v : V) : b.puts o [v] = b.set o v := rfl
attribute [go_sem] bneI ble_succ puts_one
attribute [go_sem] Tr.get_put
theorem foot_nil (n : Nat) (X : Nat → Prop) : (∀ b, b < n → b ∈ ([] : List Nat) → X b) = True := eq_true fun _ _ h => by cases h
theorem foot_one (n x : Nat) (X : Nat → Prop) : (∀ b, b < n → b ∈ [x] → X b) = (x < n → X x) := propext ⟨fun h hx => h x hx (List.mem_singleton.2 rfl), fun h b hb hm => by rw [List.mem_singleton.1 hm] at hb ⊢; exact h hb⟩
attribute [go_sem ↓] foot_nil foot_one
theorem Heap.lt_of_get {h : Heap} {b : Nat} {o : O} (e : h.get b = some o) : b < h.n := by
  rcases Nat.lt_or_ge b h.n with h' | h'
  · exact h'
  · rw [Heap.get, blt_false (Nat.not_lt.2 h')] at e; cases e
theorem Heap.set_at {h : Heap} {b c : Nat} {o x : O} (e : h.get b = some o) : (h.set b x).get c = if c = b then some x else h.get c := Heap.get_set h b c x (Heap.lt_of_get e)
end Go.Vm
