/- Proofs about calls whose inputs are not known: what has to be shown of code, of operations, of calls. -/
import Derived.Test.YtmkdbninmimndaaVmR
set_option linter.unusedVariables false
set_option linter.unusedSimpArgs false
namespace Go.Vm
variable {P : Program}

/-! ### the words -/
/-- A program, and whether what an iterator over a map hands out is open. -/
structure MP where
  P : Program
  dem : Bool
instance : Coe Program MP := ⟨fun P => ⟨P, false⟩⟩

structure PreU (P : Program) (h : Heap) (R W : Set') (H : HF) (σ : Ren) (w : World) : Prop where
  agree : ∀ b, b < h.n → R b ∨ W b → H b = h.get b
  fresh : ∀ b, h.n ≤ b → σ b = none ∧ H b = none
  inv : Inv P H σ w
theorem PreU.to {h h' : Heap} {R W : Set'} {H : HF} {σ : Ren} {w : World} (p : PreU P h R W H σ w) : Pre P h h' R W H σ w := ⟨p.agree, fun b hb => p.fresh b hb.1, p.inv⟩
theorem PreU.snd {h h₁ : Heap} {R W : Set'} {H H₁ : HF} {σ σ₁ : Ren} {w w₁ : World} (p : PreU P h R W H σ w) (v₁ : VF h h₁ W) (s : Step P h h₁ W H H₁ σ σ₁ w w₁) : PreU P h₁ R W H₁ σ₁ w₁ where
  agree := ((p.to (h' := h₁)).snd v₁ s).agree
  fresh := fun b hb => by
    have hf := p.fresh b (Nat.le_trans v₁.n hb)
    have hn1 : ¬ New h h₁ b := fun h => by have := h.2; omega
    constructor
    · cases hs : σ₁ b with
      | none => rfl
      | some l =>
        rcases s.goes.dom b l hs with h' | h'
        · rw [hf.1] at h'; cases h'
        · exact absurd h' hn1
    · rw [s.goes.virt b (fun h => by have := h.1; have := v₁.n; omega) hn1]; exact hf.2
  inv := s.goes.inv
theorem PreU.mono {h : Heap} {R W R' W' : Set'} {H : HF} {σ : Ren} {w : World} (p : PreU P h R' W' H σ w) (hr : ∀ b, R b → R' b) (hw : ∀ b, W b → W' b) : PreU P h R W H σ w :=
  ⟨fun b hb h => p.agree b hb (h.imp (hr b) (hw b)), p.fresh, p.inv⟩

/-- What is owed where iterators' choices are open. -/
def FnD (P : Program) (f : FuncId) (args : List V) (h : Heap) (R W : Set') (Q : V → Heap → Prop) : Prop :=
  ∀ H σ w, PreU P h R W H σ w → V.onL σ args →
    CallsIn (FW none) 0 P f (V.reL σ args).toArray w fun e w' => ∃ x σ' H' v h', Q v h' ∧ VF h h' W ∧ e = .returned x ∧ VRel σ' v x ∧ Step P h h' W H H' σ σ' w w'
def RoundD (P : Program) (l : Nat) (args : List V) (h : Heap) (R W : Set') (Q : V → Heap → Prop) : Prop :=
  ∀ H σ w, PreU P h R W H σ w → V.onL σ args → σ.is l →
    ∃ fn tmps assign body, (Instr.yield (σ.b l) (V.reL σ args).toArray).run P w = .ok (.round (σ.b l) fn tmps assign body) w ∧
      RoundIn (FW none) 0 P (σ.b l) fn tmps assign body w fun e w' => ∃ x σ' H' v h', Q v h' ∧ VF h h' W ∧ e = .returned x ∧ VRel σ' v x ∧ Step P h h' W H H' σ σ' w w'
def OpD (P : Program) (rd : Option Nat) (o : Oper) (tm : Tm) (h : Heap) (R W : Set') (K : V → Heap → Prop) : Prop :=
  ∀ H σ w a (Kr : Act → World → Prop) Q, PreU P h R W H σ w → EvOn σ tm o a.eval →
    (∀ x v h' σ' H' w', K v h' → VF h h' W → VRel σ' v x → Step P h h' W H H' σ σ' w w' → Kr (a.put o.dst x) w') → o.wpIn (FW rd) 0 P a w Kr Q
theorem OpD.of {rd : Option Nat} {o : Oper} {tm : Tm} {h h' : Heap} {v : V} {R W : Set'} {K : V → Heap → Prop} (ho : OpOk P rd o tm h v h' R W) (hk : K v h') : OpD P rd o tm h R W K :=
  fun H σ w a Kr Q p he hK => ho.2 H σ w a Kr Q p.to he fun x σ' H' w' h1 h2 => hK x v h' σ' H' w' hk ho.1 h1 h2
theorem FnD.of {f : FuncId} {args : List V} {h h' : Heap} {v : V} {R W : Set'} {Q : V → Heap → Prop} (hf : FnOk P f args h v h' R W) (hq : Q v h') : FnD P f args h R W Q :=
  fun H σ w p hon => CallsIn.mono (hf.2 H σ w p.to hon) fun e w' ⟨x, σ', H', h1, h2, h3⟩ => ⟨x, σ', H', v, h', hq, hf.1, h1, h2, h3⟩
theorem FnD.mono {f : FuncId} {args : List V} {h : Heap} {R W : Set'} {Q Q' : V → Heap → Prop} (hf : FnD P f args h R W Q) (hq : ∀ v h', Q v h' → VF h h' W → Q' v h') : FnD P f args h R W Q' :=
  fun H σ w p hon => CallsIn.mono (hf H σ w p hon) fun e w' ⟨x, σ', H', v, h', q, vf, h1, h2, h3⟩ => ⟨x, σ', H', v, h', hq v h' q vf, vf, h1, h2, h3⟩
theorem RoundD.mono {l : Nat} {args : List V} {h : Heap} {R W : Set'} {Q Q' : V → Heap → Prop} (hf : RoundD P l args h R W Q) (hq : ∀ v h', Q v h' → VF h h' W → Q' v h') : RoundD P l args h R W Q' :=
  fun H σ w p hon hl => by
    obtain ⟨fn, tmps, assign, body, h1, h2⟩ := hf H σ w p hon hl
    exact ⟨fn, tmps, assign, body, h1, h2.mono fun e w' ⟨x, σ', H', v, h', q, vf, h1, h2, h3⟩ => ⟨x, σ', H', v, h', hq v h' q vf, vf, h1, h2, h3⟩⟩
theorem FnD.foot {f : FuncId} {args : List V} {h : Heap} {R W R' W' : Set'} {Q : V → Heap → Prop} (hf : FnD P f args h R W Q) (hr : ∀ b, R b → R' b) (hw : ∀ b, W b → W' b) : FnD P f args h R' W' Q :=
  fun H σ w p hon => CallsIn.mono (hf H σ w (p.mono hr hw) hon) fun e w' ⟨x, σ', H', v, h', q, vf, h1, h2, h3⟩ => ⟨x, σ', H', v, h', q, vf.mono hw, h1, h2, h3.more vf p.to hw⟩
theorem RoundD.foot {l : Nat} {args : List V} {h : Heap} {R W R' W' : Set'} {Q : V → Heap → Prop} (hf : RoundD P l args h R W Q) (hr : ∀ b, R b → R' b) (hw : ∀ b, W b → W' b) : RoundD P l args h R' W' Q :=
  fun H σ w p hon hl => by
    obtain ⟨fn, tmps, assign, body, h1, h2⟩ := hf H σ w (p.mono hr hw) hon hl
    exact ⟨fn, tmps, assign, body, h1, h2.mono fun e w' ⟨x, σ', H', v, h', q, vf, h1, h2, h3⟩ => ⟨x, σ', H', v, h', q, vf.mono hw, h1, h2, h3.more vf p.to hw⟩⟩

def SF (M : MP) (f : FuncId) (args : List V) (h : Heap) (R W : Set') (Q : V → Heap → Prop) : Prop := match M.dem with
  | false => ∃ v h', Q v h' ∧ FnOk M.P f args h v h' R W
  | true => FnD M.P f args h R W Q
def SY (M : MP) (l : Nat) (args : List V) (h : Heap) (R W : Set') (Q : V → Heap → Prop) : Prop := match M.dem with
  | false => ∃ v h', Q v h' ∧ RoundOk M.P l args h v h' R W
  | true => RoundD M.P l args h R W Q
variable {M : MP}
theorem SF.det {f : FuncId} {args : List V} {h : Heap} {R W : Set'} {Q : V → Heap → Prop} : SF (P : MP) f args h R W Q ↔ ∃ v h', Q v h' ∧ FnOk P f args h v h' R W := Iff.rfl
theorem SF.dem {f : FuncId} {args : List V} {h : Heap} {R W : Set'} {Q : V → Heap → Prop} : SF ⟨P, true⟩ f args h R W Q ↔ FnD P f args h R W Q := Iff.rfl
/-- What is known of a call whatever its iterators choose. -/
theorem SF.all {f : FuncId} {args : List V} {h : Heap} {R W : Set'} {Q : V → Heap → Prop} (hf : SF M f args h R W Q) : FnD M.P f args h R W Q := by
  unfold SF at hf
  split at hf
  · obtain ⟨v, h', q, k⟩ := hf; exact FnD.of k q
  · exact hf
/-- A contract serves in both. -/
theorem SF.any {f : FuncId} {args : List V} {h : Heap} {R W : Set'} {Q : V → Heap → Prop} (hf : SF (M.P : MP) f args h R W Q) : SF M f args h R W Q := by
  obtain ⟨P, d⟩ := M
  cases d
  · exact hf
  · exact SF.all (M := (P : MP)) hf
theorem SF.monoV {f : FuncId} {args : List V} {h : Heap} {R W : Set'} {Q Q' : V → Heap → Prop} (hf : SF M f args h R W Q) (hq : ∀ v h', Q v h' → VF h h' W → Q' v h') : SF M f args h R W Q' := by
  unfold SF at *
  split at hf
  · obtain ⟨v, h', q, k⟩ := hf; exact ⟨v, h', hq v h' q k.1, k⟩
  · exact FnD.mono hf hq
theorem SF.mono {f : FuncId} {args : List V} {h : Heap} {R W : Set'} {Q Q' : V → Heap → Prop} (hf : SF M f args h R W Q) (hq : ∀ v h', Q v h' → Q' v h') : SF M f args h R W Q' := hf.monoV fun v h' q _ => hq v h' q
/-- What a call leaves of what it may not write. -/
theorem SF.kept {f : FuncId} {args : List V} {h : Heap} {R W : Set'} {Q : V → Heap → Prop} (hf : SF M f args h R W Q) : SF M f args h R W fun v h' => Q v h' ∧ VF h h' W := hf.monoV fun v h' q vf => ⟨q, vf⟩
theorem SY.monoV {l : Nat} {args : List V} {h : Heap} {R W : Set'} {Q Q' : V → Heap → Prop} (hf : SY M l args h R W Q) (hq : ∀ v h', Q v h' → VF h h' W → Q' v h') : SY M l args h R W Q' := by
  unfold SY at *
  split at hf
  · obtain ⟨v, h', q, k⟩ := hf; exact ⟨v, h', hq v h' q k.1, k⟩
  · exact RoundD.mono hf hq
theorem SY.mono {l : Nat} {args : List V} {h : Heap} {R W : Set'} {Q Q' : V → Heap → Prop} (hf : SY M l args h R W Q) (hq : ∀ v h', Q v h' → Q' v h') : SY M l args h R W Q' := hf.monoV fun v h' q _ => hq v h' q
theorem SF.foot {f : FuncId} {args : List V} {h : Heap} {R W R' W' : Set'} {Q : V → Heap → Prop} (hf : SF M f args h R W Q) (hr : ∀ b, R b → R' b) (hw : ∀ b, W b → W' b) : SF M f args h R' W' Q := by
  unfold SF at *
  split at hf
  · obtain ⟨v, h', q, k⟩ := hf; exact ⟨v, h', q, k.mono hr hw⟩
  · exact FnD.foot hf hr hw
theorem SY.foot {l : Nat} {args : List V} {h : Heap} {R W R' W' : Set'} {Q : V → Heap → Prop} (hf : SY M l args h R W Q) (hr : ∀ b, R b → R' b) (hw : ∀ b, W b → W' b) : SY M l args h R' W' Q := by
  unfold SY at *
  split at hf
  · obtain ⟨v, h', q, k⟩ := hf; exact ⟨v, h', q, k.mono hr hw⟩
  · exact RoundD.foot hf hr hw
/-- A contract at a call. -/
theorem SF.at {f : FuncId} {args : List V} {h : Heap} {R W R' W' : Set'} {Q Q' : V → Heap → Prop} (hf : SF M f args h R W Q) (hr : ∀ b, R b → R' b) (hw : ∀ b, W b → W' b) (hq : ∀ v h', Q v h' → Q' v h') : SF M f args h R' W' Q' :=
  (hf.foot hr hw).mono hq

/-- Only what lies below the heap's end counts. -/
theorem FnOk.below {f : FuncId} {args : List V} {h h' : Heap} {v : V} {R W R' W' : Set'} (hf : FnOk P f args h v h' R W) (hr : ∀ b, b < h.n → R b → R' b) (hw : ∀ b, b < h.n → W b → W' b) : FnOk P f args h v h' R' W' := by
  have h1 : FnOk P f args h v h' (fun b => b < h.n ∧ R b) (fun b => b < h.n ∧ W b) := by
    refine ⟨⟨hf.1.n, fun b hb hnw => hf.1.get b hb fun h => hnw ⟨hb, h⟩⟩, fun H σ w p hon => ?_⟩
    have p' : Pre P h h' R W H σ w := ⟨fun b hb h => p.agree b hb (h.imp (fun x => ⟨hb, x⟩) fun x => ⟨hb, x⟩), p.fresh, p.inv⟩
    refine (hf.2 H σ w p' hon).mono ?_
    rintro e w' ⟨x, σ', H', h1, h2, h3⟩
    refine ⟨x, σ', H', h1, h2, ⟨h3.goes.more fun b hb => ⟨hb.1, hb.1, hb.2⟩, fun b hb => h3.get b (hb.imp (fun h => h) fun h => ⟨h.1, h.2.2⟩)⟩⟩
  exact h1.mono (fun b hb => hr b hb.1 hb.2) (fun b hb => hw b hb.1 hb.2)
theorem FnD.below {f : FuncId} {args : List V} {h : Heap} {R W R' W' : Set'} {Q : V → Heap → Prop} (hf : FnD P f args h R W Q) (hr : ∀ b, b < h.n → R b → R' b) (hw : ∀ b, b < h.n → W b → W' b) : FnD P f args h R' W' Q := by
  have h1 : FnD P f args h (fun b => b < h.n ∧ R b) (fun b => b < h.n ∧ W b) Q := by
    refine fun H σ w p hon => ?_
    have p' : PreU P h R W H σ w := ⟨fun b hb h => p.agree b hb (h.imp (fun x => ⟨hb, x⟩) fun x => ⟨hb, x⟩), p.fresh, p.inv⟩
    refine (hf H σ w p' hon).mono ?_
    rintro e w' ⟨x, σ', H', v, h', q, vf, h1, h2, h3⟩
    refine ⟨x, σ', H', v, h', q, ⟨vf.n, fun b hb hnw => vf.get b hb fun h => hnw ⟨hb, h⟩⟩, h1, h2, ⟨h3.goes.more fun b hb => ⟨hb.1, hb.1, hb.2⟩, fun b hb => h3.get b (hb.imp (fun h => h) fun h => ⟨h.1, h.2.2⟩)⟩⟩
  exact h1.foot (fun b hb => hr b hb.1 hb.2) (fun b hb => hw b hb.1 hb.2)
theorem SF.below {f : FuncId} {args : List V} {h : Heap} {R W R' W' : Set'} {Q : V → Heap → Prop} (hf : SF M f args h R W Q) (hr : ∀ b, b < h.n → R b → R' b) (hw : ∀ b, b < h.n → W b → W' b) : SF M f args h R' W' Q := by
  unfold SF at *
  split at hf
  · obtain ⟨v, h', q, k⟩ := hf; exact ⟨v, h', q, k.below hr hw⟩
  · exact FnD.below hf hr hw

def allB (S : Set') : List Nat → Prop
  | [] => True
  | b :: r => S b ∧ allB S r
theorem allB_iff {S : Set'} : ∀ {l : List Nat}, allB S l ↔ ∀ b ∈ l, S b
  | [] => by simp [allB]
  | b :: r => by simp [allB, allB_iff]

/-- What an iterator over a map may hand out. -/
def SNext (R W : Set') (h : Heap) (b : Nat) (K : V → Heap → Prop) : Prop := match h.get b with
  | some (.iter none _ _ _) => R b ∧ K (.tuple [.bool false]) h
  | some (.iter (some m) since seen stepped) => match h.get m with
    | some (.map es clock) => R b ∧ W b ∧ R m ∧ (seen = [] ∨ es = [] ∨ ∃ e ∈ es, e.2.2 < stepped) ∧
      ((∀ e ∈ es, e.2.2 < since → e.2.2 ∈ seen) → K (.tuple [.bool false]) h) ∧
      ∀ e ∈ es, e.2.2 ∉ seen → K (.tuple [.bool true, e.1, e.2.1]) (h.set b (.iter (some m) since (seen ++ [e.2.2]) clock))
    | _ => False
  | _ => False

def SOp (M : MP) (R W : Set') (tm : Tm) (h : Heap) (o : Oper) (K : V → Heap → Prop) : Prop := match o.op with
  | .call { callee := .value f, args, .. } => match evV tm f with
    | some (.func g xs ys) => match evVs tm args.toList with
      | some vs => callable M.P g = true ∧ SF M g ((xs ++ vs) ++ ys) h R W K
      | none => False
    | some (.yield l) => match evVs tm args.toList with
      | some vs => SY M l vs h R W K
      | none => False
    | _ => False
  | .call { callee := .invoke r name, args, .. } => match evV tm r with
    | some (.iface t v) => match methV M.P t name with
      | some g => match evVs tm args.toList with
        | some vs => callable M.P g = true ∧ SF M g (v :: vs) h R W K
        | none => False
      | none => False
    | _ => False
  | .next x isS => match M.dem with
    | false => match evP M.P tm h o with
      | some pr => allB R pr.r ∧ allB W pr.w ∧ K pr.v pr.h
      | none => False
    | true => match isS, evV tm x with
      | false, some (.ptr (some (b, 0))) => SNext R W h b K
      | _, _ => False
  | _ => match evP M.P tm h o with
    | some pr => allB R pr.r ∧ allB W pr.w ∧ K pr.v pr.h
    | none => False
theorem SOp.mono {R W : Set'} {tm : Tm} {h : Heap} {o : Oper} {K K' : V → Heap → Prop} (hs : SOp M R W tm h o K) (hk : ∀ v h', K v h' → K' v h') : SOp M R W tm h o K' := by
  unfold SOp at *
  split at hs
  · split at hs
    · split at hs
      · exact ⟨hs.1, hs.2.mono hk⟩
      · exact hs.elim
    · split at hs
      · exact hs.mono hk
      · exact hs.elim
    · exact hs.elim
  · split at hs
    · split at hs
      · split at hs
        · exact ⟨hs.1, hs.2.mono hk⟩
        · exact hs.elim
      · exact hs.elim
    · exact hs.elim
  · split at hs
    · split at hs
      · exact ⟨hs.1, hs.2.1, hk _ _ hs.2.2⟩
      · exact hs.elim
    · split at hs
      · unfold SNext at *
        split at hs
        · exact ⟨hs.1, hk _ _ hs.2⟩
        · split at hs
          · obtain ⟨h1, h2, h3, h4, h5, h6⟩ := hs
            exact ⟨h1, h2, h3, h4, fun h => hk _ _ (h5 h), fun e he hn => hk _ _ (h6 e he hn)⟩
          · exact hs.elim
        · exact hs.elim
      · exact hs.elim
  · split at hs
    · exact ⟨hs.1, hs.2.1, hk _ _ hs.2.2⟩
    · exact hs.elim

theorem opOk_call {g : FuncId} {xs ys vs : List V} {R W : Set'} {tm : Tm} {h h' : Heap} {v : V} {o : Oper} {f : Operand} {args : Array Operand} {ts : Array TypeId} (ho : o.op = .call { callee := .value f, args, argTypes := ts })
    (hf : evV tm f = some (.func g xs ys)) (hvs : evVs tm args.toList = some vs) (hc : callable P g = true) {H : HF} {σ : Ren} {w : World} {a : Act} {Kr : Act → World → Prop} {Q : Exit → Act → World → Prop} {rd : Option Nat} (he : EvOn σ tm o a.eval)
    (hcall : V.onL σ ((xs ++ vs) ++ ys) → CallsIn (FW none) 0 P g (V.reL σ ((xs ++ vs) ++ ys)).toArray w fun e w' => ∃ x, e = .returned x ∧ Kr (a.put o.dst x) w') : o.wpIn (FW rd) 0 P a w Kr Q := by
  have hnd : ∀ c, o.op ≠ .defer c := by intro c e; rw [ho] at e; cases e
  have e1 := he f (by simp [ho, Op.operands, Call.operands]) _ hf
  have e2 := evVs_rel (ρ := a.eval) args.toList vs (fun x hx => he x (by simp only [ho, Op.operands, Call.operands, Array.mem_append]; exact .inr (Array.mem_toList_iff.1 hx))) hvs
  have ea : args.map a.eval = (V.reL σ vs).toArray := by rw [← e2.2, ← Array.toList_map, Array.toArray_toList]
  refine ⟨fun _ _ => trivial, ?_⟩
  rw [Oper.semAt_eq _ _ _ hnd]
  have hrun : (execOp a.eval o).run P w = .ok (.enter g (V.reL σ ((xs ++ vs) ++ ys)).toArray) w := by
    simp only [execOp, ho, resolve, e1.2, V.re, Deferred.ofValue, Sem.run_bind, Sem.run_pure, Result.andThen_ok, invoke, ea]
    rw [run_callable hc]
    simp [reL_append]
  rw [hrun]
  refine ⟨fun h => (by cases h), ?_⟩
  refine CallsIn.mono (hcall (onL_append (onL_append e1.1.1 e2.1) e1.1.2)) ?_
  rintro e w' ⟨x, rfl, hk⟩
  exact hk
theorem opOk_invoke {g : FuncId} {r : Operand} {name : String} {t : TypeId} {u : V} {vs : List V} {tm : Tm} {o : Oper} {args : Array Operand} {ts : Array TypeId} (ho : o.op = .call { callee := .invoke r name, args, argTypes := ts })
    (hr : evV tm r = some (.iface t u)) (hg : methV P t name = some g) (hvs : evVs tm args.toList = some vs) (hc : callable P g = true) {σ : Ren} {w : World} {a : Act} {Kr : Act → World → Prop} {Q : Exit → Act → World → Prop} {rd : Option Nat} (he : EvOn σ tm o a.eval)
    (hcall : V.onL σ (u :: vs) → CallsIn (FW none) 0 P g (V.reL σ (u :: vs)).toArray w fun e w' => ∃ x, e = .returned x ∧ Kr (a.put o.dst x) w') : o.wpIn (FW rd) 0 P a w Kr Q := by
  have hnd : ∀ c, o.op ≠ .defer c := by intro c e; rw [ho] at e; cases e
  have e1 := he r (by simp [ho, Op.operands, Call.operands]) _ hr
  have e2 := evVs_rel (ρ := a.eval) args.toList vs (fun x hx => he x (by simp only [ho, Op.operands, Call.operands, Array.mem_append]; exact .inr (Array.mem_toList_iff.1 hx))) hvs
  have ea : args.map a.eval = (V.reL σ vs).toArray := by rw [← e2.2, ← Array.toList_map, Array.toArray_toList]
  refine ⟨fun _ _ => trivial, ?_⟩
  rw [Oper.semAt_eq _ _ _ hnd]
  have hrun : (execOp a.eval o).run P w = .ok (.enter g (V.reL σ (u :: vs)).toArray) w := by
    simp only [execOp, ho, resolve, e1.2, V.re, Sem.run_bind, Sem.run_pure, Result.andThen_ok, invoke, ea]
    have hm := run_methV hg (u.re σ) w (P.types.size + Made.depth - 1)
    have h0 : 0 < Made.depth := by decide
    have hd : P.types.size + Made.depth - 1 + 1 = P.types.size + Made.depth := by omega
    rw [hd] at hm
    have ex : (#[(V.iface t u).re σ] ++ (V.reL σ vs).toArray).extract 1 (#[(V.iface t u).re σ] ++ (V.reL σ vs).toArray).size = (V.reL σ vs).toArray := by simp
    have e0 : (#[(V.iface t u).re σ] ++ (V.reL σ vs).toArray)[0]? = some (.iface t (u.re σ)) := by simp [V.re]
    have hp : (program).run P w = .ok P w := rfl
    simp only [V.re] at ex e0
    simp only [e0, ex, callMethod, Sem.run_bind, hp, Result.andThen_ok, hm, run_callable hc]
    simp [V.reL]
  rw [hrun]
  refine ⟨fun h => (by cases h), ?_⟩
  refine CallsIn.mono (hcall ⟨e1.1, e2.1⟩) ?_
  rintro e w' ⟨x, rfl, hk⟩
  exact hk
theorem opOk_yield {l : Nat} {vs : List V} {tm : Tm} {h h' : Heap} {v : V} {o : Oper} {f : Operand} {args : Array Operand} {ts : Array TypeId} (ho : o.op = .call { callee := .value f, args, argTypes := ts })
    (hf : evV tm f = some (.yield l)) (hvs : evVs tm args.toList = some vs) {H : HF} {σ : Ren} {w : World} {a : Act} {Kr : Act → World → Prop} {Q : Exit → Act → World → Prop} {rd : Option Nat} (he : EvOn σ tm o a.eval)
    (hcall : V.onL σ vs → σ.is l → ∃ fn tmps assign body, (Instr.yield (σ.b l) (V.reL σ vs).toArray).run P w = .ok (.round (σ.b l) fn tmps assign body) w ∧
      RoundIn (FW none) 0 P (σ.b l) fn tmps assign body w fun e w' => ∃ x, e = .returned x ∧ Kr (a.put o.dst x) w') : o.wpIn (FW rd) 0 P a w Kr Q := by
  have hnd : ∀ c, o.op ≠ .defer c := by intro c e; rw [ho] at e; cases e
  have e1 := he f (by simp [ho, Op.operands, Call.operands]) _ hf
  have e2 := evVs_rel (ρ := a.eval) args.toList vs (fun x hx => he x (by simp only [ho, Op.operands, Call.operands, Array.mem_append]; exact .inr (Array.mem_toList_iff.1 hx))) hvs
  have ea : args.map a.eval = (V.reL σ vs).toArray := by rw [← e2.2, ← Array.toList_map, Array.toArray_toList]
  obtain ⟨fn, tmps, assign, body, h2, h3⟩ := hcall e2.1 e1.1
  refine ⟨fun _ _ => trivial, ?_⟩
  rw [Oper.semAt_eq _ _ _ hnd]
  have hrun : (execOp a.eval o).run P w = .ok (.round (σ.b l) fn tmps assign body) w := by
    simp only [execOp, ho, resolve, e1.2, V.re, Deferred.ofValue, Sem.run_bind, Sem.run_pure, Result.andThen_ok, invoke, ea]
    simpa using h2
  rw [hrun]
  refine ⟨fun h => (by cases h), ?_⟩
  refine RoundIn.mono h3 ?_
  rintro e w' ⟨x, rfl, hk⟩
  exact hk

theorem SOp.ok {R W : Set'} {tm : Tm} {h : Heap} {o : Oper} {K : V → Heap → Prop} (hs : SOp (P : MP) R W tm h o K) : ∃ v h', K v h' ∧ ∀ rd, OpOk P rd o tm h v h' R W := by
  unfold SOp at hs
  split at hs
  · rename_i f args ts ho
    split at hs
    · rename_i g xs ys hf
      split at hs
      · rename_i vs hvs
        obtain ⟨hc, v, h', q, k⟩ := hs
        refine ⟨v, h', q, fun rd => ⟨k.1, fun H σ w a Kr Q p he hK => opOk_call (h := h) (h' := h') (v := v) (R := R) (W := W) (H := H) ho hf hvs hc he fun hon => ?_⟩⟩
        refine CallsIn.mono (k.2 H σ w p hon) ?_
        rintro e w' ⟨x, σ', H', rfl, h2, h3⟩
        exact ⟨x, rfl, hK x σ' H' w' h2 h3⟩
      · exact hs.elim
    · rename_i l hf
      split at hs
      · rename_i vs hvs
        obtain ⟨v, h', q, k⟩ := hs
        refine ⟨v, h', q, fun rd => ⟨k.1, fun H σ w a Kr Q p he hK => opOk_yield (h := h) (h' := h') (v := v) (H := H) ho hf hvs he fun hon hl => ?_⟩⟩
        obtain ⟨fn, tmps, assign, body, h2, h3⟩ := k.2 H σ w p hon hl
        refine ⟨fn, tmps, assign, body, h2, RoundIn.mono h3 ?_⟩
        rintro e w' ⟨x, σ', H', rfl, h2, h3⟩
        exact ⟨x, rfl, hK x σ' H' w' h2 h3⟩
      · exact hs.elim
    · exact hs.elim
  · rename_i r name args ts ho
    split at hs
    · rename_i t u hr
      split at hs
      · rename_i g hg
        split at hs
        · rename_i vs hvs
          obtain ⟨hc, v, h', q, k⟩ := hs
          refine ⟨v, h', q, fun rd => ⟨k.1, fun H σ w a Kr Q p he hK => opOk_invoke ho hr hg hvs hc he fun hon => ?_⟩⟩
          refine CallsIn.mono (k.2 H σ w p hon) ?_
          rintro e w' ⟨x, σ', H', rfl, h2, h3⟩
          exact ⟨x, rfl, hK x σ' H' w' h2 h3⟩
        · exact hs.elim
      · exact hs.elim
    · exact hs.elim
  · split at hs
    · split at hs
      · rename_i pr hp
        exact ⟨pr.v, pr.h, hs.2.2, fun rd => opOk_prim hp (allB_iff.1 hs.1) (allB_iff.1 hs.2.1)⟩
      · exact hs.elim
    · rename_i hd; cases hd
  · split at hs
    · rename_i pr hp
      exact ⟨pr.v, pr.h, hs.2.2, fun rd => opOk_prim hp (allB_iff.1 hs.1) (allB_iff.1 hs.2.1)⟩
    · exact hs.elim

theorem SOp.okD {R W : Set'} {tm : Tm} {h : Heap} {o : Oper} {K : V → Heap → Prop} (hs : SOp ⟨P, true⟩ R W tm h o K) (rd : Option Nat) : OpD P rd o tm h R W K := by
  unfold SOp at hs
  split at hs
  · rename_i f args ts ho
    split at hs
    · rename_i g xs ys hf
      split at hs
      · rename_i vs hvs
        obtain ⟨hc, k⟩ := hs
        intro H σ w a Kr Q p he hK
        refine opOk_call (h := h) (h' := h) (v := undefV) (R := R) (W := W) (H := H) ho hf hvs hc he fun hon => ?_
        refine CallsIn.mono (k H σ w p hon) ?_
        rintro e w' ⟨x, σ', H', v, h', q, vf, rfl, h2, h3⟩
        exact ⟨x, rfl, hK x v h' σ' H' w' q vf h2 h3⟩
      · exact hs.elim
    · rename_i l hf
      split at hs
      · rename_i vs hvs
        intro H σ w a Kr Q p he hK
        refine opOk_yield (h := h) (h' := h) (v := undefV) (H := H) ho hf hvs he fun hon hl => ?_
        obtain ⟨fn, tmps, assign, body, h2, h3⟩ := hs H σ w p hon hl
        refine ⟨fn, tmps, assign, body, h2, RoundIn.mono h3 ?_⟩
        rintro e w' ⟨x, σ', H', v, h', q, vf, rfl, h2, h3⟩
        exact ⟨x, rfl, hK x v h' σ' H' w' q vf h2 h3⟩
      · exact hs.elim
    · exact hs.elim
  · rename_i r name args ts ho
    split at hs
    · rename_i t u hr
      split at hs
      · rename_i g hg
        split at hs
        · rename_i vs hvs
          obtain ⟨hc, k⟩ := hs
          intro H σ w a Kr Q p he hK
          refine opOk_invoke ho hr hg hvs hc he fun hon => ?_
          refine CallsIn.mono (k H σ w p hon) ?_
          rintro e w' ⟨x, σ', H', v, h', q, vf, rfl, h2, h3⟩
          exact ⟨x, rfl, hK x v h' σ' H' w' q vf h2 h3⟩
        · exact hs.elim
      · exact hs.elim
    · exact hs.elim
  · rename_i x isS ho
    split at hs
    · rename_i hd; cases hd
    split at hs
    · rename_i b hx
      intro H σ w a Kr Q p he hK
      have hnd : ∀ c, o.op ≠ .defer c := by intro c e; rw [ho] at e; cases e
      have e1 := he x (by simp [ho, Op.operands]) _ hx
      refine ⟨fun _ _ => trivial, ?_⟩
      rw [Oper.semAt_eq _ _ _ hnd]
      unfold SNext at hs
      split at hs
      · rename_i since seen stepped hg
        obtain ⟨hR, hk⟩ := hs
        have hHb : H b = some (.iter none since seen stepped) := by rw [p.agree b (Heap.get_lt hg) (.inl hR), hg]
        obtain ⟨l, hl, hls, _, hw⟩ := iter_rel p.inv hHb
        have hrun : (execOp a.eval o).run P w = .ok (.value (.tuple #[.bool false])) w := by
          simp only [execOp, ho, e1.2, V.re, Option.map_some, reA, Ren.b_eq hl, Ren.s_eq hl]
          rw [hls]
          simp [Instr.next, getObj, Sem.run, hw]
        rw [hrun]
        exact hK _ _ _ σ H w hk (VF.refl _ _) ⟨⟨trivial, trivial⟩, by simp [V.re, V.reL]⟩ (Step.refl p.inv fun b hb hw => p.agree b hb (.inr hw))
      · rename_i m since seen stepped hg
        split at hs
        · rename_i es clock hgm
          obtain ⟨hR, hW, hRm, hok, hend, hmore⟩ := hs
          have hHb : H b = some (.iter (some m) since seen stepped) := by rw [p.agree b (Heap.get_lt hg) (.inl hR), hg]
          have hHm : H m = some (.map es clock) := by rw [p.agree m (Heap.get_lt hgm) (.inl hRm), hgm]
          obtain ⟨l, hl, hls, hon, hw⟩ := iter_rel p.inv hHb
          obtain ⟨lm, hlm, hwm, honm⟩ := map_rel p.inv hHm
          have hlt : l.blk < w.heap.size := (Array.getElem?_eq_some_iff.1 hw).1
          have hw' : w.heap[l.blk]? = some (.mapIter (some lm.blk) since seen.toArray stepped) := by rw [hw]; simp [Ren.b_eq hlm]
          obtain ⟨n, d, c, hc, hrun⟩ := run_next (P := P) (t := o.type) hw' hwm hok
          have hrun' : (execOp a.eval o).run P w = ((Instr.next (.pointer (some ⟨l.blk, 0, none⟩)) false o.type).run P w).andThen fun v w' => .ok (.value v) w' := by
            simp only [execOp, ho, e1.2, V.re, Option.map_some, reA, Ren.b_eq hl, Ren.s_eq hl, hls, Nat.add_zero, Sem.run_bind, Sem.run_pure]
          rw [hrun', hrun]
          cases c with
          | none =>
            have hcall : ∀ e ∈ es, e.2.2 < since → e.2.2 ∈ seen := by
              intro e he hlt'
              refine Decidable.byContradiction fun hns => ?_
              have hmem : e ∈ oldE since (leftE seen es) := by
                simp only [oldE, leftE, List.mem_filter, decide_eq_true_eq]
                exact ⟨⟨he, by simpa using hns⟩, hlt'⟩
              have hne : (oldE since (leftE seen es)).isEmpty = false := by
                cases hq : oldE since (leftE seen es) with
                | nil => rw [hq] at hmem; cases hmem
                | cons a l => rfl
              have := List.mem_of_getElem? hc
              simp [candE, hne] at this
            exact hK _ _ _ σ H _ (hend hcall) (VF.refl _ _) ⟨⟨trivial, trivial⟩, by simp [V.re, V.reL]⟩ ((Step.refl p.inv fun b hb hw => p.agree b hb (.inr hw)).world rfl rfl rfl rfl)
          | some e =>
            have hmem : e ∈ es ∧ e.2.2 ∉ seen := by
              have := List.mem_of_getElem? hc
              simp only [candE, List.mem_append, List.mem_map, Option.some.injEq, exists_eq_right] at this
              rcases this with h | h | h
              · split at h <;> simp at h
              · simp only [oldE, leftE, List.mem_filter] at h; exact ⟨h.1.1, by simpa using h.1.2⟩
              · simp only [newE, leftE, List.mem_filter] at h; exact ⟨h.1.1, by simpa using h.1.2⟩
            have hen := honm e hmem.1
            have hi1 : Inv P H σ ({ w with drawn := d } : World) := p.inv.heap rfl
            have hlt1 : l.blk < ({ w with drawn := d } : World).heap.size := hlt
            have p1 : PreU P h R W H σ ({ w with drawn := d } : World) := ⟨p.agree, p.fresh, hi1⟩
            have hs := step_set (w' := ({ w with drawn := d } : World).putObj l.blk (.mapIter (some lm.blk) since (seen ++ [e.2.2]).toArray clock)) (p1.to (h' := h.set b (.iter (some m) since (seen ++ [e.2.2]) clock))) hg rfl hW hl (putObj_size _ _ _) (fun k hk => World.putObj_heap_other hk) rfl rfl rfl (by
              rw [World.putObj_heap_same hlt1]; exact ⟨hls, hon, by simp [Ren.b_eq hlm]⟩)
            refine hK _ _ _ σ (HF.upd H b (.iter (some m) since (seen ++ [e.2.2]) clock)) _ (hmore e hmem.1 hmem.2) (vf_set (Heap.get_lt hg) _ hW) ⟨⟨trivial, hen.1, hen.2, trivial⟩, by simp [V.re, V.reL]⟩ ?_
            exact ⟨⟨hs.goes.le, hs.goes.dom, hs.goes.inv, hs.goes.virt, hs.goes.dead, hs.goes.fresh, hs.goes.real, hs.goes.size, hs.goes.os, hs.goes.tape, hs.goes.output⟩, hs.get⟩
        · exact hs.elim
      · exact hs.elim
    · exact hs.elim
  · split at hs
    · rename_i pr hp
      exact OpD.of (opOk_prim hp (allB_iff.1 hs.1) (allB_iff.1 hs.2.1)) hs.2.2
    · exact hs.elim

def SOps (M : MP) (R W : Set') (ops : List Oper) : List Oper → Tm → Heap → (Tm → Heap → Prop) → Prop
  | [], tm, h, K => K tm h
  | o :: l, tm, h, K => match wantV ops tm o with
    | some true => SOp M R W tm h o fun v h' => SOps M R W ops l (tm.put o.dst v) h' K
    | some false => SOps M R W ops l (tm.put o.dst undefV) h K
    | none => False
theorem SOps.ok {R W : Set'} (opsA : Array Oper) {K : Tm → Heap → Prop} : ∀ (l : List Oper) (k : Nat) (tm : Tm) (h : Heap), opsA.toList.drop k = l → SOps (P : MP) R W opsA.toList l tm h K →
    ∃ tm' h', K tm' h' ∧ VF h h' W ∧ ∀ rd H σ w a Q, Pre P h h' R W H σ w → TRel σ tm a.tmps →
      (∀ σ' H' a' w', a'.defers = a.defers → TRel σ' tm' a'.tmps → Step P h h' W H H' σ σ' w w' → Q .normal a' w') → wpOpsIn (FW rd) 0 P opsA Q (List.range' k l.length) a w
  | [], k, tm, h, hk, hs => ⟨tm, h, hs, VF.refl _ _, fun rd H σ w a Q p ht hQ => hQ σ H a w rfl ht (Step.refl p.inv fun b hb hw => p.agree b hb (.inr hw))⟩
  | o :: r, k, tm, h, hk, hs => by
    have hlt : k < opsA.toList.length := by
      rcases Nat.lt_or_ge k opsA.toList.length with h | h
      · exact h
      · rw [List.drop_eq_nil_of_le h] at hk; cases hk
    have hdrop := List.drop_eq_getElem_cons hlt
    rw [hk] at hdrop
    have ho : opsA[k]? = some o := by
      have : o = opsA.toList[k] := (List.cons.inj hdrop).1
      rw [this]; simp at hlt; simp [hlt]
    have hk' : opsA.toList.drop (k + 1) = r := (List.cons.inj hdrop).2.symm
    unfold SOps at hs
    split at hs
    · rename_i hw
      obtain ⟨v, h1, hs1, ok1⟩ := hs.ok
      obtain ⟨tm', h', q, v2, ih⟩ := SOps.ok opsA r (k + 1) _ _ hk' hs1
      have vf1 := (ok1 none).1
      refine ⟨tm', h', q, vf1.trans v2, fun rd H σ w a Q p ht hQ => ?_⟩
      simp only [List.length_cons, List.range'_succ, wpOpsIn, ho]
      have hwant : Region.wanted o (yielded opsA a.tmps) = true := wantV_ok hw (fun j want g t u _ _ _ hu => ht.2 t u hu)
      rw [if_pos hwant]
      refine (ok1 rd).2 H σ w a _ Q (p.fst v2.n) (by cases a; exact ht.ev _ o) fun x σ' H' w' hx hs => ?_
      refine ih rd H' σ' w' _ Q (p.snd vf1 hs) ((ht.le hs.goes.le).put o.dst hx a.defers) fun σ'' H'' a' w'' hd ht' hs' => ?_
      exact hQ σ'' H'' a' w'' (hd.trans (by cases o.dst <;> rfl)) ht' (Step.trans p vf1 v2 hs hs')
    · rename_i hw
      obtain ⟨tm', h', q, v2, ih⟩ := SOps.ok opsA r (k + 1) _ _ hk' hs
      refine ⟨tm', h', q, v2, fun rd H σ w a Q p ht hQ => ?_⟩
      simp only [List.length_cons, List.range'_succ, wpOpsIn, ho]
      have hwant : Region.wanted o (yielded opsA a.tmps) = false := wantV_ok hw (fun j want g t u _ _ _ hu => ht.2 t u hu)
      rw [if_neg (by rw [hwant]; simp)]
      refine ⟨fun _ _ => trivial, ?_⟩
      refine ih rd H σ w _ Q p (ht.put o.dst ⟨undefV_on _, (undefV_re σ).symm⟩ a.defers) fun σ'' H'' a' w'' hd ht' hs' => ?_
      exact hQ σ'' H'' a' w'' (hd.trans (by cases o.dst <;> rfl)) ht' hs'
    · exact hs.elim

theorem SOps.okD {R W : Set'} (opsA : Array Oper) {K : Tm → Heap → Prop} (rd : Option Nat) (Q : Exit → Act → World → Prop) : ∀ (l : List Oper) (k : Nat) (tm : Tm) (h : Heap), opsA.toList.drop k = l → SOps ⟨P, true⟩ R W opsA.toList l tm h K →
    ∀ H σ w a, PreU P h R W H σ w → TRel σ tm a.tmps →
      (∀ σ' H' a' w' tm' h', K tm' h' → VF h h' W → a'.defers = a.defers → TRel σ' tm' a'.tmps → Step P h h' W H H' σ σ' w w' → Q .normal a' w') → wpOpsIn (FW rd) 0 P opsA Q (List.range' k l.length) a w
  | [], k, tm, h, hk, hs, H, σ, w, a, p, ht, hQ => hQ σ H a w tm h hs (VF.refl _ _) rfl ht (Step.refl p.inv fun b hb hw => p.agree b hb (.inr hw))
  | o :: r, k, tm, h, hk, hs, H, σ, w, a, p, ht, hQ => by
    have hlt : k < opsA.toList.length := by
      rcases Nat.lt_or_ge k opsA.toList.length with h | h
      · exact h
      · rw [List.drop_eq_nil_of_le h] at hk; cases hk
    have hdrop := List.drop_eq_getElem_cons hlt
    rw [hk] at hdrop
    have ho : opsA[k]? = some o := by
      have : o = opsA.toList[k] := (List.cons.inj hdrop).1
      rw [this]; simp at hlt; simp [hlt]
    have hk' : opsA.toList.drop (k + 1) = r := (List.cons.inj hdrop).2.symm
    unfold SOps at hs
    simp only [List.length_cons, List.range'_succ, wpOpsIn, ho]
    split at hs
    · rename_i hw
      have hwant : Region.wanted o (yielded opsA a.tmps) = true := wantV_ok hw (fun j want g t u _ _ _ hu => ht.2 t u hu)
      rw [if_pos hwant]
      refine (hs.okD rd) H σ w a _ Q p (by cases a; exact ht.ev _ o) fun x v h1 σ' H' w' hs1 vf1 hx hst => ?_
      refine SOps.okD opsA rd Q r (k + 1) _ _ hk' hs1 H' σ' w' _ (p.snd vf1 hst) ((ht.le hst.goes.le).put o.dst hx a.defers) fun σ'' H'' a' w'' tm' h' q v2 hd ht' hs' => ?_
      exact hQ σ'' H'' a' w'' tm' h' q (vf1.trans v2) (hd.trans (by cases o.dst <;> rfl)) ht' (Step.trans p.to vf1 v2 hst hs')
    · rename_i hw
      have hwant : Region.wanted o (yielded opsA a.tmps) = false := wantV_ok hw (fun j want g t u _ _ _ hu => ht.2 t u hu)
      rw [if_neg (by rw [hwant]; simp)]
      refine ⟨fun _ _ => trivial, ?_⟩
      refine SOps.okD opsA rd Q r (k + 1) _ _ hk' hs H σ w _ p (ht.put o.dst ⟨undefV_on _, (undefV_re σ).symm⟩ a.defers) fun σ'' H'' a' w'' tm' h' q v2 hd ht' hs' => ?_
      exact hQ σ'' H'' a' w'' tm' h' q v2 (hd.trans (by cases o.dst <;> rfl)) ht' hs'
    · exact hs.elim

/-! ### statements whose order is open -/
structure RowP where
  R : Set'
  W : Set'
  n : Nat
  n' : Nat
def SOpD (P : Program) (tm : Tm) (h : Heap) (o : Oper) (K : V → Heap → Set' → Set' → Prop) : Prop := match o.op with
  | .call { callee := .value f, args, .. } => match evV tm f with
    | some (.func g xs ys) => match evVs tm args.toList with
      | some vs => callable P g = true ∧ ∃ R W, SF (P : MP) g ((xs ++ vs) ++ ys) h R W fun v h' => K v h' R W
      | none => False
    | _ => False
  | .call { callee := .invoke r name, args, .. } => match evV tm r with
    | some (.iface t v) => match methV P t name with
      | some g => match evVs tm args.toList with
        | some vs => callable P g = true ∧ ∃ R W, SF (P : MP) g (v :: vs) h R W fun v h' => K v h' R W
        | none => False
      | none => False
    | _ => False
  | _ => match evP P tm h o with
    | some pr => K pr.v pr.h (· ∈ pr.r) (· ∈ pr.w)
    | none => False
theorem SOpD.ok {tm : Tm} {h : Heap} {o : Oper} {K : V → Heap → Set' → Set' → Prop} (hs : SOpD P tm h o K) : ∃ v h' R W, K v h' R W ∧ ∀ rd, OpOk P rd o tm h v h' R W := by
  have key : ∃ R W, SOp (P : MP) R W tm h o fun v h' => K v h' R W := by
    unfold SOpD at hs
    split at hs
    · rename_i f args ts ho
      split at hs
      · rename_i g xs ys hf
        split at hs
        · rename_i vs hvs
          obtain ⟨hc, R, W, hk⟩ := hs
          exact ⟨R, W, by simp only [SOp, ho, hf, hvs]; exact ⟨hc, hk⟩⟩
        · exact hs.elim
      · exact hs.elim
    · rename_i r name args ts ho
      split at hs
      · rename_i t u hr
        split at hs
        · rename_i g hg
          split at hs
          · rename_i vs hvs
            obtain ⟨hc, R, W, hk⟩ := hs
            exact ⟨R, W, by simp only [SOp, ho, hr, hg, hvs]; exact ⟨hc, hk⟩⟩
          · exact hs.elim
        · exact hs.elim
      · exact hs.elim
    · rename_i hne hni
      split at hs
      · rename_i pr hp
        refine ⟨(· ∈ pr.r), (· ∈ pr.w), ?_⟩
        unfold SOp
        split
        · rename_i f args ts ho; exact absurd ho (hne f args ts)
        · rename_i r name args ts ho; exact absurd ho (hni r name args ts)
        · simp only [hp]; exact ⟨allB_iff.2 fun _ h => h, allB_iff.2 fun _ h => h, hs⟩
        · simp only [hp]; exact ⟨allB_iff.2 fun _ h => h, allB_iff.2 fun _ h => h, hs⟩
      · exact hs.elim
  obtain ⟨R, W, hk⟩ := key
  obtain ⟨v, h', q, ok⟩ := hk.ok
  exact ⟨v, h', R, W, q, ok⟩
def SRows (P : Program) (ops : List Oper) : List Oper → Tm → Heap → List RowP → (Tm → Heap → List RowP → Prop) → Prop
  | [], tm, h, rows, K => K tm h rows
  | o :: l, tm, h, rows, K => match wantV ops tm o with
    | some true => SOpD P tm h o fun v h' R W => SRows P ops l (tm.put o.dst v) h' (rows ++ [⟨R, W, h.n, h'.n⟩]) K
    | some false => SRows P ops l (tm.put o.dst undefV) h (rows ++ [⟨fun _ => False, fun _ => False, h.n, h.n⟩]) K
    | none => False

/-- Operations that make nothing and write nothing. -/
def still (o : Oper) : Bool := match o.op with
  | .sliceToArrayPointer .. | .entry _ | .lookup .. | .move _ | .assign _ | .pick .. | .binOp .. | .unOp .. | .nilCheck _ | .makeFunc .. | .extract .. | .fieldAddr .. | .indexAddr .. | .load .. | .build .. | .slice .. | .field .. | .index .. => true
  | .convert s d _ => !Nat.beq s d
  | .call { callee := .builtin .len, .. } | .call { callee := .builtin .cap, .. } | .call { callee := .builtin .min, .. } | .call { callee := .builtin .max, .. } => true
  | _ => false
theorem still_evB {h : Heap} {b : Builtin} {ts : Array TypeId} {vs : List V} {pr : Pr} (hb : b = .len ∨ b = .cap ∨ b = .min ∨ b = .max) (hp : evB P h b ts vs = some pr) : pr.w = [] ∧ pr.h = h := by
  unfold evB at hp
  split at hp
  · split at hp
    · split at hp
      · cases hp; exact ⟨rfl, rfl⟩
      · cases hp
    · cases hp
  · split at hp
    · split at hp
      · cases hp; exact ⟨rfl, rfl⟩
      · cases hp
    · cases hp
  · cases hp; exact ⟨rfl, rfl⟩
  · cases hp; exact ⟨rfl, rfl⟩
  · simp at hb
  · simp at hb
  · simp at hb
  · cases hp
theorem still_ok {tm : Tm} {h : Heap} {o : Oper} {pr : Pr} (hs : still o = true) (hp : evP P tm h o = some pr) : pr.w = [] ∧ pr.h = h := by
  unfold evP at hp
  split at hp
  · obtain ⟨v, _, rfl⟩ := one_some hp; exact ⟨rfl, rfl⟩
  · obtain ⟨v, _, rfl⟩ := one_some hp; exact ⟨rfl, rfl⟩
  · split at hp
    · obtain ⟨v, _, rfl⟩ := one_some hp; exact ⟨rfl, rfl⟩
    · obtain ⟨v, _, rfl⟩ := one_some hp; exact ⟨rfl, rfl⟩
    · cases hp
  · split at hp
    · obtain ⟨v, _, rfl⟩ := one_some hp; exact ⟨rfl, rfl⟩
    · cases hp
  · split at hp
    · obtain ⟨v, _, rfl⟩ := one_some hp; exact ⟨rfl, rfl⟩
    · cases hp
  · split at hp
    · split at hp
      · cases hp; exact ⟨rfl, rfl⟩
      · cases hp
    · cases hp
  · split at hp
    · cases hp; exact ⟨rfl, rfl⟩
    · cases hp
  · split at hp
    · obtain ⟨v, _, rfl⟩ := one_some hp; exact ⟨rfl, rfl⟩
    · cases hp
  · split at hp
    · split at hp
      · cases hp; exact ⟨rfl, rfl⟩
      · cases hp
    · cases hp
  · split at hp
    · obtain ⟨v, _, rfl⟩ := one_some hp; exact ⟨rfl, rfl⟩
    · cases hp
  · split at hp
    · split at hp
      · cases hp; exact ⟨rfl, rfl⟩
      · cases hp
    · cases hp
  · rename_i ho; simp [still, ho] at hs
  · rename_i ho; simp [still, ho] at hs
  · rename_i ho; simp [still, ho] at hs
  · rename_i ho; simp [still, ho] at hs
  · split at hp
    · split at hp
      · cases hp; exact ⟨rfl, rfl⟩
      · cases hp
    · cases hp
  · rename_i ho; simp [still, ho] at hs
  · split at hp
    · obtain ⟨v, _, rfl⟩ := one_some hp; exact ⟨rfl, rfl⟩
    · cases hp
  · rename_i ho
    split at hp
    · rename_i hq; simp [still, ho, hq] at hs
    · split at hp
      · split at hp
        · cases hp; exact ⟨rfl, rfl⟩
        · cases hp
      · cases hp
  · split at hp
    · obtain ⟨v, _, rfl⟩ := one_some hp; exact ⟨rfl, rfl⟩
    · cases hp
  · split at hp
    · obtain ⟨v, _, rfl⟩ := one_some hp; exact ⟨rfl, rfl⟩
    · cases hp
  · rename_i ho; simp [still, ho] at hs
  · split at hp
    · split at hp
      · cases hp; exact ⟨rfl, rfl⟩
      · cases hp
    · cases hp
  · rename_i ho; simp [still, ho] at hs
  · rename_i ho; simp [still, ho] at hs
  · rename_i ho; simp [still, ho] at hs
  · split at hp
    · obtain ⟨v, _, rfl⟩ := one_some hp; exact ⟨rfl, rfl⟩
    · cases hp
  · rename_i ho; simp [still, ho] at hs
  · split at hp
    · split at hp
      · split at hp
        · cases hp; exact ⟨rfl, rfl⟩
        · cases hp
      · cases hp
    · cases hp
  · split at hp
    · obtain ⟨v, _, rfl⟩ := one_some hp; exact ⟨rfl, rfl⟩
    · cases hp
  · rename_i c ho
    obtain ⟨callee, args, ts⟩ := c
    split at hp
    · rename_i b hc
      dsimp only at hc hp
      subst hc
      split at hp
      · refine still_evB ?_ hp
        unfold still at hs
        rw [ho] at hs
        cases b <;> first | (cases hs; done) | simp
      · cases hp
    · cases hp
  · cases hp

def ApartP (ri rj : RowP) : Prop :=
  (∀ b, (b < ri.n ∧ ri.W b) ∨ (ri.n ≤ b ∧ b < ri.n') → ¬ (b < rj.n ∧ (rj.R b ∨ rj.W b))) ∧ (∀ b, b < rj.n ∧ rj.W b → ¬ (b < ri.n ∧ (ri.R b ∨ ri.W b)))
/-- The pairs whose order is open and of which one is loud. -/
def openPairs (ops : List Oper) : List (Nat × Nat) :=
  (List.range ops.length).flatMap fun j => (List.range j).filterMap fun i =>
    match Nat.testBit ((masks ops []).getD j 0) i with
    | true => none
    | false => match ops[i]?, ops[j]? with
      | some a, some b => match still a, still b with
        | true, true => none
        | _, _ => some (i, j)
      | _, _ => none
def pairsP (rows : List RowP) : List (Nat × Nat) → Prop
  | [] => True
  | (i, j) :: r => (match rows[i]?, rows[j]? with
    | some a, some b => ApartP a b
    | _, _ => False) ∧ pairsP rows r

def footP (R W : Set') (n : Nat) : List RowP → Prop
  | [] => True
  | x :: r => (∀ b, b < n → x.R b → R b) ∧ (∀ b, b < n → x.W b → W b) ∧ footP R W n r
theorem footP_mem {R W : Set'} {n : Nat} : ∀ {rows : List RowP}, footP R W n rows → ∀ x ∈ rows, (∀ b, b < n → x.R b → R b) ∧ (∀ b, b < n → x.W b → W b)
  | [], _, x, hx => by cases hx
  | y :: r, h, x, hx => by
    rcases List.mem_cons.1 hx with rfl | hx
    · exact ⟨h.1, h.2.1⟩
    · exact footP_mem h.2.2 x hx
def SDraw (P : Program) (R W : Set') (ops : List Oper) (tm : Tm) (h : Heap) (K : Tm → Heap → Prop) : Prop :=
  staticOk ops = true ∧ SRows P ops ops tm h [] fun tm' h' rows => pairsP rows (openPairs ops) ∧ footP R W h.n rows ∧ K tm' h'

theorem pairsP_mem {rows : List RowP} : ∀ {l : List (Nat × Nat)}, pairsP rows l → ∀ i j, (i, j) ∈ l → ∀ a b, rows[i]? = some a → rows[j]? = some b → ApartP a b
  | [], _, i, j, h => by cases h
  | (i', j') :: r, h, i, j, hm => by
    intro a b ha hb
    rcases List.mem_cons.1 hm with e | hm
    · cases e
      have := h.1
      simp only [ha, hb] at this
      exact this
    · exact pairsP_mem h.2 i j hm a b ha hb

theorem SRows_run {ops : List Oper} {K : Tm → Heap → List RowP → Prop} : ∀ (l : List Oper) (tm : Tm) (h : Heap) (pre : List RowP), SRows P ops l tm h pre K →
    ∃ tm' h' rows, K tm' h' (pre ++ rows) ∧ ∃ (hs : Nat → Heap) (tms : Nat → Tm) (vs : Nat → V) (R W : Nat → Set'), hs 0 = h ∧ tms 0 = tm ∧ hs l.length = h' ∧ tms l.length = tm' ∧ rows.length = l.length ∧
      ∀ i o, l[i]? = some o → rows[i]? = some ⟨R i, W i, (hs i).n, (hs (i + 1)).n⟩ ∧ (still o = true → (∀ b, ¬ W i b) ∧ (hs (i + 1)).n = (hs i).n) ∧ tms (i + 1) = (tms i).put o.dst (vs i) ∧ VF (hs i) (hs (i + 1)) (W i) ∧
        ((wantV ops (tms i) o = some true ∧ ∀ rd, OpOk P rd o (tms i) (hs i) (vs i) (hs (i + 1)) (R i) (W i)) ∨ (wantV ops (tms i) o = some false ∧ vs i = undefV ∧ hs (i + 1) = hs i ∧ (∀ b, ¬ W i b)))
  | [], tm, h, pre, hs => ⟨tm, h, [], by simpa [SRows] using hs, fun _ => h, fun _ => tm, fun _ => undefV, fun _ _ => False, fun _ _ => False, rfl, rfl, rfl, rfl, rfl, fun i o ho => by simp at ho⟩
  | o :: r, tm, h, pre, hsr => by
    unfold SRows at hsr
    split at hsr
    · rename_i hw
      have hst : ∃ v h1 R0 W0, SRows P ops r (tm.put o.dst v) h1 (pre ++ [⟨R0, W0, h.n, h1.n⟩]) K ∧ (∀ rd, OpOk P rd o tm h v h1 R0 W0) ∧ (still o = true → (∀ b, ¬ W0 b) ∧ h1.n = h.n) := by
        by_cases hso : still o = true
        · have hs0 := hsr
          unfold SOpD at hsr
          split at hsr
          · rename_i ho; simp [still, ho] at hso
          · rename_i ho; simp [still, ho] at hso
          · split at hsr
            · rename_i pr hp
              obtain ⟨e1, e2⟩ := still_ok hso hp
              refine ⟨pr.v, pr.h, (· ∈ pr.r), (· ∈ pr.w), hsr, fun rd => opOk_prim hp (fun _ h => h) (fun _ h => h), fun _ => ⟨fun b hb => (by rw [e1] at hb; cases hb), by rw [e2]⟩⟩
            · exact hsr.elim
        · obtain ⟨v, h1, R0, W0, h2, h3⟩ := hsr.ok
          exact ⟨v, h1, R0, W0, h2, h3, fun h => absurd h hso⟩
      obtain ⟨v, h1, R0, W0, hk, ok, hstill⟩ := hst
      obtain ⟨tm', h', rows, q, hs, tms, vs, R, W, e1, e2, e3, e4, e5, e6⟩ := SRows_run r _ _ _ hk
      refine ⟨tm', h', ⟨R0, W0, h.n, h1.n⟩ :: rows, by simpa using q, fun k => Nat.casesOn k h hs, fun k => Nat.casesOn k tm tms, fun k => Nat.casesOn k v vs, fun k => Nat.casesOn k R0 R, fun k => Nat.casesOn k W0 W, rfl, rfl, e3, e4, by simp [e5], fun i q hq => ?_⟩
      cases i with
      | zero =>
        simp at hq; subst hq
        refine ⟨?_, ?_, e2, ?_, .inl ⟨hw, fun rd => ?_⟩⟩
        · show some _ = some (⟨R0, W0, h.n, (hs 0).n⟩ : RowP); rw [e1]
        · show still o = true → (∀ b, ¬ W0 b) ∧ (hs 0).n = h.n; rw [e1]; exact hstill
        · show VF h (hs 0) W0; rw [e1]; exact (ok none).1
        · show OpOk P rd o tm h v (hs 0) R0 W0; rw [e1]; exact ok rd
      | succ i => exact e6 i q (by simpa using hq)
    · rename_i hw
      obtain ⟨tm', h', rows, q, hs, tms, vs, R, W, e1, e2, e3, e4, e5, e6⟩ := SRows_run r _ _ _ hsr
      refine ⟨tm', h', ⟨fun _ => False, fun _ => False, h.n, h.n⟩ :: rows, by simpa using q, fun k => Nat.casesOn k h hs, fun k => Nat.casesOn k tm tms, fun k => Nat.casesOn k undefV vs, fun k => Nat.casesOn k (fun _ => False) R, fun k => Nat.casesOn k (fun _ => False) W, rfl, rfl, e3, e4, by simp [e5], fun i q hq => ?_⟩
      cases i with
      | zero =>
        simp at hq; subst hq
        refine ⟨?_, ?_, e2, ?_, .inr ⟨hw, rfl, e1, fun b h => h⟩⟩
        · show some _ = some (⟨fun _ => False, fun _ => False, h.n, (hs 0).n⟩ : RowP); rw [e1]
        · show still o = true → (∀ b, ¬ False) ∧ (hs 0).n = h.n; rw [e1]; exact fun _ => ⟨fun _ h => h, rfl⟩
        · show VF h (hs 0) _; rw [e1]; exact VF.refl _ _
      | succ i => exact e6 i q (by simpa using hq)
    · exact hsr.elim

theorem mem_openPairs {ops : List Oper} {i j : Nat} {oi oj : Oper} (hij : i < j) (hi : ops[i]? = some oi) (hj : ops[j]? = some oj) :
    Nat.testBit ((masks ops []).getD j 0) i = true ∨ (still oi = true ∧ still oj = true) ∨ (i, j) ∈ openPairs ops := by
  by_cases hb : Nat.testBit ((masks ops []).getD j 0) i = true
  · exact .inl hb
  · right
    by_cases hs : still oi = true ∧ still oj = true
    · exact .inl hs
    · right
      have hjl := (List.getElem?_eq_some_iff.1 hj).1
      refine List.mem_flatMap.2 ⟨j, List.mem_range.2 hjl, List.mem_filterMap.2 ⟨i, List.mem_range.2 hij, ?_⟩⟩
      have hb' : Nat.testBit ((masks ops []).getD j 0) i = false := by simpa using hb
      simp only [hb', hi, hj]
      cases h1 : still oi <;> cases h2 : still oj <;> simp_all

theorem SDraw.ok (hm : P.follows .mixedOrders = true) {R W : Set'} (opsA : Array Oper) {tm : Tm} {h : Heap} {K : Tm → Heap → Prop} (hs : SDraw P R W opsA.toList tm h K) :
    ∃ tm' h', K tm' h' ∧ VF h h' W ∧ ∀ rd rid H σ w a Q, Pre P h h' R W H σ w → TRel σ tm a.tmps →
      (∀ σ' H' a' w', a'.defers = a.defers → TRel σ' tm' a'.tmps → Step P h h' W H H' σ σ' w w' → Q .normal a' w') → (Code.region rid opsA true).wpIn (FW rd) 0 P Q a w := by
  obtain ⟨hst, hs⟩ := hs
  obtain ⟨tm', h', rows, ⟨hpairs, hfoot, q⟩, hh, tms, vs, R', W', e1, e2, e3, e4, e5, e6⟩ := SRows_run _ _ _ _ hs
  simp only [List.nil_append] at hpairs hfoot
  have hlen : opsA.toList.length = opsA.size := by simp
  rw [hlen] at e3 e4 e5
  have e6' : ∀ i o, opsA[i]? = some o → _ := fun i o ho => e6 i o (by simpa using ho)
  have run : ∀ rd, Run P rd opsA hh tms vs R' W' := by
    intro rd
    refine ⟨fun i o ho => ?_, fun i o ho e he hb => ?_, fun i j oi oj hij hoi hoj => ?_, fun i j hij hj => ?_⟩
    · obtain ⟨_, _, h1, h2, h3⟩ := e6' i o ho
      exact ⟨h1, h2, h3.imp (fun ⟨a, b⟩ => ⟨a, b rd⟩) fun h => h⟩
    · exact static_edge hst (by simpa using ho) he hb
    · exact static_tmps hst hij (by simpa using hoi) (by simpa using hoj)
    · have hi' : i < opsA.size := by omega
      obtain ⟨g1, g2, _⟩ := e6' i _ (Array.getElem?_eq_getElem hi')
      obtain ⟨k1, k2, _⟩ := e6' j _ (Array.getElem?_eq_getElem hj)
      rcases mem_openPairs (ops := opsA.toList) hij (oi := opsA[i]) (oj := opsA[j]) (by simp [hi']) (by simp [hj]) with h | ⟨h1, h2⟩ | h
      · exact .inl (masks_ok h)
      · right
        refine ⟨fun b hb _ => ?_, fun b hb => absurd hb.2 ((k2 h2).1 b)⟩
        rcases hb with hb | hb
        · exact (g2 h1).1 b hb.2
        · have := hb.1; have := hb.2; have := (g2 h1).2; omega
      · exact .inr (pairsP_mem hpairs i j h _ _ g1 k1)
  have hsub : ∀ k b, k < opsA.size → b < (hh 0).n → b < (hh k).n := fun k b hk hb => Nat.lt_of_lt_of_le hb ((run none).n_mono (Nat.zero_le _) (by omega))
  have hn0 : (hh 0).n = h.n := by rw [e1]
  have hRf : ∀ k b, k < opsA.size → b < (hh 0).n → R' k b → R b := fun k b hk hb hr => by
    obtain ⟨g1, _⟩ := e6' k _ (Array.getElem?_eq_getElem hk)
    exact (footP_mem hfoot _ (List.mem_of_getElem? g1)).1 b (by omega) hr
  have hWf : ∀ k b, k < opsA.size → b < (hh 0).n → W' k b → W b := fun k b hk hb hr => by
    obtain ⟨g1, _⟩ := e6' k _ (Array.getElem?_eq_getElem hk)
    exact (footP_mem hfoot _ (List.mem_of_getElem? g1)).2 b (by omega) hr
  refine ⟨tm', h', q, ?_, fun rd rid H σ w a Q p ht hQ => ?_⟩
  · have : ∀ k, k ≤ opsA.size → VF (hh 0) (hh k) W := by
      intro k
      induction k with
      | zero => intro _; exact VF.refl _ _
      | succ k ih =>
        intro hk
        have h1 := ih (by omega)
        have h2 := (run none).vf (i := k) (by omega)
        refine ⟨Nat.le_trans h1.n h2.n, fun b hb hw => ?_⟩
        rw [h2.get b (hsub k b (by omega) hb) fun hwk => hw (hWf k b (by omega) hb hwk), h1.get b hb hw]
    have := this opsA.size (Nat.le_refl _)
    rwa [e1, e3] at this
  · have p' : Pre P (hh 0) (hh opsA.size) R W H σ w := by rw [e1, e3]; exact p
    refine wp_draw hm (vrd := rd) (run rd) hRf hWf p' (by rw [e2]; exact ht) fun σ' H' a' w' h1 h2 h3 => hQ σ' H' a' w' h1 (by rw [e4] at h2; exact h2) ?_
    rw [e1, e3] at h3; exact h3

end Go.Vm
