/- The virtual machine's run of code, of functions and of the rounds of a range over a function. -/
import Derived.Test.YtmkdbninmimndaaVmO
import Derived.Scope
set_option linter.unusedVariables false
set_option linter.unusedSimpArgs false
namespace Go.Vm
variable {P : Program}

/-! ### laws of the walk that are wanted besides -/
section
variable {F : Fence} {n : Nat} {Q : Exit → Act → World → Prop} {a : Act} {w : World} {b : Frame} {k : List Item} {cs : List Frame}
theorem stepR_scope {c : Code} : step P (lone (b.atR a (.code (.scope c) :: k)) cs w) = .next (lone (b.atR a (.code c :: .inScope c :: k)) cs w) :=
  step_lone_go (by simp [stepG, stepG.exec, Frame.atR])
theorem stepR_inScope {c : Code} : step P (lone (b.atR a (.inScope c :: k)) cs w) = .next (lone (b.atR a k) cs w) :=
  step_lone_go (by simp [stepG, stepG.exec, Frame.atR])
theorem wpIn_scope {c : Code} (h : c.wpIn F n P (Exit.noGoto Q) a w) : (Code.scope c).wpIn F n P Q a w := by
  intro b k cs hro hb hr
  have h0 : (lone (b.atR a (.code (.scope c) :: k)) cs w).fenced P F := fenced_calm hb hr rfl
  obtain ⟨e, a₁, w₁, hq, harr⟩ := h b (.inScope c :: k) cs hro hb hr
  cases e with
  | normal => exact ⟨.normal, a₁, w₁, hq, .head h0 stepR_scope (StepsIn.trans harr (.one (fenced_calm hb hr rfl) stepR_inScope))⟩
  | exit id =>
    have hx : exitTo id (.inScope c :: k) = exitTo id k := by simp [exitTo]
    exact ⟨.exit id, a₁, w₁, hq, fun k' hk => .head h0 stepR_scope (harr.1 k' (by rw [hx]; exact hk)),
      fun hr' hk => let ⟨k₁, h1, h2⟩ := harr.2 hr' (by rw [hx]; exact hk); ⟨k₁, h1, .head h0 stepR_scope h2⟩⟩
  | goto l => exact hq.elim
  | ret => exact ⟨_, a₁, w₁, hq, .of_steps (.one h0 stepR_scope) harr⟩
  | panic ch => exact ⟨_, a₁, w₁, hq, .of_steps (.one h0 stepR_scope) harr⟩
  | outgrown => exact ⟨_, a₁, w₁, hq, .of_steps (.one h0 stepR_scope) harr⟩
/-- At a loop's head. -/
def LoopIn (F : Fence) (n : Nat) (P : Program) (c : Code) (Q : Exit → Act → World → Prop) (a : Act) (w : World) : Prop :=
  ∀ (b : Frame) (k : List Item) (cs : List Frame), b.roundOf = F.round → F.fn b.fn → F.room (cs.length + 1 + n) →
    ∃ e a' w', Q e a' w' ∧ ArrivesIn (Machine.fenced P F) P (lone (b.atR a (.code c :: .inLoop c :: k)) cs w) b k cs e a' w'
theorem loopIn_round {c : Code} (h : c.wpIn F n P (Exit.then (LoopIn F n P c Q) Q) a w) : LoopIn F n P c Q a w := by
  intro b k cs hro hb hr
  obtain ⟨e, a₁, w₁, hq, harr⟩ := h b (.inLoop c :: k) cs hro hb hr
  cases e with
  | normal =>
    obtain ⟨e₂, a₂, w₂, hq₂, harr₂⟩ := hq b k cs hro hb hr
    exact ⟨e₂, a₂, w₂, hq₂, .of_steps (StepsIn.trans harr (.one (fenced_calm hb hr rfl) stepR_inLoop)) harr₂⟩
  | exit id => exact ⟨_, a₁, w₁, hq, .pass (x := .inLoop c) rfl (fun _ _ => .inl (by simp)) harr⟩
  | goto l => exact ⟨_, a₁, w₁, hq, .pass (x := .inLoop c) rfl (fun _ _ => .inl (by simp)) harr⟩
  | ret => exact ⟨_, a₁, w₁, hq, .pass (x := .inLoop c) rfl (fun _ _ => .inl (by simp)) harr⟩
  | panic ch => exact ⟨_, a₁, w₁, hq, .pass (x := .inLoop c) rfl (fun _ _ => .inl (by simp)) harr⟩
  | outgrown => exact ⟨_, a₁, w₁, hq, .pass (x := .inLoop c) rfl (fun _ _ => .inl (by simp)) harr⟩
theorem wpIn_loopIn {c : Code} (h : LoopIn F n P c Q a w) : (Code.loop c).wpIn F n P Q a w := by
  intro b k cs hro hb hr
  obtain ⟨e, a', w', hq, harr⟩ := h b k cs hro hb hr
  exact ⟨e, a', w', hq, .of_steps (.one (fenced_calm hb hr rfl) stepR_loop) harr⟩
end

/-! ### frames -/
structure Fr where
  tm : Tm
  mks : List Nat
inductive Ex where
  | norm
  | exit (n : Nat)
  | ret
def Ex.to : Ex → Exit
  | .norm => .normal
  | .exit n => .exit n
  | .ret => .ret
def markOf (σ : Ren) (b : Nat) : Deferred := { target := .collected (σ.b b), args := #[] }
structure FRel (σ : Ren) (f : Fr) (a : Act) : Prop where
  tm : TRel σ f.tm a.tmps
  mks : a.defers = f.mks.map (markOf σ)
  on : ∀ b ∈ f.mks, σ.is b
theorem marks_le {σ τ : Ren} (hl : σ.le τ) {mks : List Nat} (hon : ∀ b ∈ mks, σ.is b) : mks.map (markOf τ) = mks.map (markOf σ) :=
  List.map_congr_left fun b hb => by simp [markOf, Ren.b_le hl (hon b hb)]
theorem FRel.le {σ τ : Ren} (hl : σ.le τ) {f : Fr} {a : Act} (h : FRel σ f a) : FRel τ f a :=
  ⟨h.tm.le hl, by rw [marks_le hl h.on]; exact h.mks, fun b hb => Ren.is_le hl (h.on b hb)⟩

def CodeOk (P : Program) (rd : Option Nat) (c : Code) (f : Fr) (h : Heap) (e : Ex) (f' : Fr) (h' : Heap) (R W : Set') : Prop :=
  VF h h' W ∧ ∀ H σ w a Q, (∀ l, rd = some l → σ.is l) → Pre P h h' R W H σ w → FRel σ f a →
    (∀ σ' H' a' w', FRel σ' f' a' → Step P h h' W H H' σ σ' w w' → Q e.to a' w') → c.wpIn (FW (rd.map σ.b)) 0 P Q a w
theorem CodeOk.mono {rd : Option Nat} {c : Code} {f f' : Fr} {h h' : Heap} {e : Ex} {R W R' W' : Set'} (hc : CodeOk P rd c f h e f' h' R W) (hr : ∀ b, R b → R' b) (hw : ∀ b, W b → W' b) : CodeOk P rd c f h e f' h' R' W' :=
  ⟨hc.1.mono hw, fun H σ w a Q hl p hf hQ => hc.2 H σ w a Q hl (p.mono hr hw) hf fun σ' H' a' w' h1 h2 => hQ σ' H' a' w' h1 (h2.more hc.1 p hw)⟩

/-! ### small steps -/
theorem vf_push (h : Heap) (o : O) (W : Set') : VF h (h.push o) W := ⟨by simp, fun b hb _ => by rw [Heap.get_push, if_neg (by omega)]⟩
theorem step_push {h : Heap} {o : O} {R W : Set'} {H : HF} {σ : Ren} {w : World} (p : Pre P h (h.push o) R W H σ w) (o' : Obj) (s : Nat) (hd : o.isDead = false) (hr : BRel P (σ.upd h.n ⟨w.heap.size, 0, s⟩) ⟨w.heap.size, 0, s⟩ o (some o')) :
    Step P h (h.push o) W H (HF.upd H h.n o) σ (σ.upd h.n ⟨w.heap.size, 0, s⟩) w (w.alloc o') := by
  have hf := p.fresh h.n ⟨Nat.le_refl _, by simp⟩
  refine ⟨goes_push p.inv hf.1 hf.2 s (fun b => by simp [New]; omega) hd hr, fun b hb => ?_⟩
  rw [Heap.get_push]
  rcases hb with hb | hb
  · have : b = h.n := by simp [New] at hb; omega
    subst this; simp [HF.upd_same]
  · have hne : b ≠ h.n := by have := hb.1; omega
    rw [HF.upd_ne _ _ hne, if_neg hne, p.agree b hb.1 (.inr hb.2)]
theorem vf_set {h : Heap} {b : Nat} (hb : b < h.n) (o : O) {W : Set'} (hW : W b) : VF h (h.set b o) W :=
  ⟨by simp, fun c hc hw => by rw [Heap.get_set h b c o hb, if_neg (show c ≠ b from fun e => hw (e ▸ hW))]⟩
theorem step_set {h : Heap} {b : Nat} {x o : O} {l : Loc} {R W : Set'} {H : HF} {σ : Ren} {w w' : World} (p : Pre P h (h.set b o) R W H σ w) (hg : h.get b = some x) (hx : x.isDead = false) (hW : W b) (hl : σ b = some l)
    (hsz : w'.heap.size = w.heap.size) (hoth : ∀ k, k ≠ l.blk → w'.heap[k]? = w.heap[k]?) (e2 : w'.os = w.os) (e3 : w'.tape = w.tape) (e4 : w'.output = w.output) (hr : BRel P σ l o w'.heap[l.blk]?) (hd : o.isDead = false := by rfl) :
    Step P h (h.set b o) W H (HF.upd H b o) σ σ w w' := by
  have hbn := Heap.get_lt hg
  refine ⟨goes_set p.inv ⟨x, by rw [p.agree b hbn (.inr hW), hg], hx⟩ hl (fun c hc => by simp [New] at hc; omega) ⟨hbn, hW⟩ hsz hoth e2 e3 e4 hr hd, fun c hc => ?_⟩
  rw [Heap.get_set h b c o hbn]
  by_cases e : c = b
  · subst e; simp [HF.upd_same]
  · rw [HF.upd_ne _ _ e, if_neg e]
    rcases hc with hc | hc
    · simp [New] at hc; omega
    · exact p.agree c hc.1 (.inr hc.2)
theorem putObj_size (w : World) (r : Nat) (o : Obj) : (w.putObj r o).heap.size = w.heap.size := by simp [World.putObj]

/-! ### code -/
def loopN (body : Fr → St → Option (Ex × Fr × St)) : Nat → Fr → St → Option (Ex × Fr × St)
  | 0, _, _ => none
  | n + 1, f, s => match body f s with
    | some (.norm, f', s') => loopN body n f' s'
    | r => r

def enterV (rd : Option Nat) (f : Fr) (ps : Array Tmp) (assign body : Code) (s : St) : Option (Nat × Fr × St) := match rd with
  | none => some (s.h.n + 1, ⟨f.tm, s.h.n :: f.mks⟩, s.add ((s.h.push (.deferred true)).push (.loop ⟨.ready, none, f.tm, ps.toList, assign, body, s.h.n⟩)) [] [])
  | some l => match s.h.get l with
    | some (.loop lv) => some (s.h.n, f, s.add (s.h.push (.loop ⟨.ready, none, f.tm, ps.toList, assign, body, lv.defers⟩)) [l] [])
    | _ => none
def endV (L : Nat) (f : Fr) (s : St) : Option (Ex × Fr × St) := match s.h.get L with
  | some (.loop lv) => match lv.state with
    | .busy => none
    | _ => match lv.pending with
      | none => some (.norm, f, s.add (s.h.set L (.loop { lv with state := .exhausted })) [] [L])
      | some .ret => some (.ret, f, s.add (s.h.set L (.loop { lv with state := .exhausted })) [] [L])
      | some (.exit id) => some (.exit id, f, s.add (s.h.set L (.loop { lv with state := .exhausted })) [] [L])
      | _ => none
  | _ => none
def evRange (P : Program) (inv : InvT) (rd : Option Nat) (g : Operand) (ps : Array Tmp) (assign body : Code) (f : Fr) (s : St) : Option (Ex × Fr × St) := match evV f.tm g with
  | some (.func k xs ys) => match callable P k with
    | true => match enterV rd f ps assign body s with
      | some (L, f1, s1) => match inv (.fn k) ((xs ++ [.yield L]) ++ ys) s1 with
        | some (_, s2) => endV L f1 s2
        | none => none
      | none => none
    | false => none
  | _ => none

def evCode (P : Program) (inv : InvT) (L : Nat) (rd : Option Nat) : Code → Fr → St → Option (Ex × Fr × St)
  | .skip, f, s => some (.norm, f, s)
  | .label _, f, s => some (.norm, f, s)
  | .region _ ops draw, f, s => match draw with
    | false => match evOps P inv ops.toList ops.toList f.tm s with
      | some (tm, s') => some (.norm, ⟨tm, f.mks⟩, s')
      | none => none
    | true => match evDraw P inv ops.toList f.tm s with
      | some (tm, s') => some (.norm, ⟨tm, f.mks⟩, s')
      | none => none
  | .seq a b, f, s => match evCode P inv L rd a f s with
    | some (.norm, f', s') => evCode P inv L rd b f' s'
    | r => r
  | .cond c a b, f, s => match evV f.tm c with
    | some (.bool true) => evCode P inv L rd a f s
    | some (.bool false) => evCode P inv L rd b f s
    | _ => none
  | .block id c, f, s => match evCode P inv L rd c f s with
    | some (.exit id', f', s') => match Nat.beq id' id with
      | true => some (.norm, f', s')
      | false => some (.exit id', f', s')
    | r => r
  | .loop c, f, s => loopN (evCode P inv L rd c) L f s
  | .exit id, f, s => some (.exit id, f, s)
  | .ret, f, s => some (.ret, f, s)
  | .scope c, f, s => evCode P inv L rd c f s
  | .rangeFunc g ps assign body, f, s => evRange P inv rd g ps assign body f s
  | _, _, _ => none

/-! ### that it is so -/
theorem enterV_ok {rd : Option Nat} {f f1 : Fr} {ps : Array Tmp} {assign body : Code} {s s1 : St} {L : Nat} (hv : enterV rd f ps assign body s = some (L, f1, s1)) :
    s.le s1 ∧ VF s.h s1.h s1.W ∧ f1.tm = f.tm ∧ ∀ H σ w (a : Act) (fn : FuncId), (∀ l, rd = some l → σ.is l) → Pre P s.h s1.h s1.R s1.W H σ w → FRel σ f a →
      ∃ σ' H' w' mark, (Instr.enterLoop fn a.tmps ps assign body (rd.map σ.b)).run P w = .ok (σ'.b L, mark) w' ∧ FRel σ' f1 { a with defers := mark ++ a.defers } ∧ σ'.is L ∧ Step P s.h s1.h s1.W H H' σ σ' w w' := by
  unfold enterV at hv
  split at hv
  · cases hv
    refine ⟨s.le_add _ _ _, (vf_push _ _ _).trans (vf_push _ _ _), rfl, fun H σ w a fn hl p hf => ?_⟩
    have p1 := p.fst (h₁ := s.h.push (.deferred true)) (by simp [St.add])
    have s1 := step_push p1 (.deferred (some [])) 0 rfl (by simp [BRel])
    have p2 := p.snd (vf_push _ _ _) s1
    have hD : (σ.upd s.h.n ⟨w.heap.size, 0, 0⟩).is s.h.n := on_new _ _ _
    have hle1 := s1.goes.le
    have hfr2 := p2.fresh (s.h.push (.deferred true)).n ⟨Nat.le_refl _, by simp [St.add]⟩
    have hle2 := Ren.le_upd hfr2.1 ⟨(w.alloc (.deferred (some []))).heap.size, 0, 0⟩
    have s2 := step_push p2 (.loop { state := .ready, pending := none, fn, tmps := a.tmps, params := ps, assign, body, defers := w.heap.size }) 0 rfl ⟨_, rfl, rfl, rfl, (hf.tm.le hle1).le hle2, by simp, rfl, rfl, Ren.is_le hle2 hD, by
      rw [Ren.b_le hle2 hD, Ren.b_eq (Ren.upd_same _ _ _)]⟩
    have hs := Step.trans p (vf_push _ _ _) (vf_push _ _ _) s1 s2
    refine ⟨_, _, _, [{ target := .collected w.heap.size, args := #[] }], ?_, ⟨(hf.tm.le hs.goes.le), ?_, fun b hb => ?_⟩, on_new _ _ _, hs⟩
    · have := run_enterLoop_outer (P := P) (w := w) fn a.tmps ps assign body
      simp only [Option.map_none, this]
      have : Ren.b ((σ.upd s.h.n ⟨w.heap.size, 0, 0⟩).upd (s.h.push (.deferred true)).n ⟨(w.alloc (.deferred (some []))).heap.size, 0, 0⟩) (s.h.n + 1) = w.heap.size + 1 := by
        exact (Ren.b_eq (x := s.h.n + 1) (Ren.upd_same _ (s.h.push (.deferred true)).n _)).trans (by simp)
      rw [this]
    · simp only [List.map_cons, List.singleton_append]
      congr 1
      · simp only [markOf]
        rw [Ren.b_le hle2 hD, Ren.b_eq (Ren.upd_same _ _ _)]
      · rw [marks_le hs.goes.le hf.on]; exact hf.mks
    · rcases List.mem_cons.1 hb with rfl | hb
      · exact Ren.is_le hle2 hD
      · exact Ren.is_le hs.goes.le (hf.on b hb)
  · rename_i l
    split at hv
    · rename_i lv hg
      cases hv
      refine ⟨s.le_add _ _ _, vf_push _ _ _, rfl, fun H σ w a fn hl p hf => ?_⟩
      have hln := Heap.get_lt hg
      have hHl : H l = some (.loop lv) := by rw [p.agree l hln (.inl (s.add_R _ _ _ l (by simp))), hg]
      obtain ⟨loc, hloc, lp, hw, hrel⟩ := p.inv.rel l _ hHl rfl
      have hfr := p.fresh s.h.n ⟨Nat.le_refl _, by simp [St.add]⟩
      have hle := Ren.le_upd hfr.1 ⟨w.heap.size, 0, 0⟩
      have hs := step_push p (.loop { state := .ready, pending := none, fn, tmps := a.tmps, params := ps, assign, body, defers := lp.defers }) 0 rfl ⟨_, rfl, rfl, rfl, hf.tm.le hle, by simp, rfl, rfl, Ren.is_le hle hrel.defers.1, by
        rw [Ren.b_le hle hrel.defers.1]; exact hrel.defers.2⟩
      refine ⟨_, _, _, [], ?_, hf.le hs.goes.le, on_new _ _ _, hs⟩
      rw [Ren.b_eq (Ren.upd_same _ _ _)]
      have hw' : w.heap[σ.b l]? = some (.loop lp) := by rw [Ren.b_eq hloc]; exact hw
      simp [Instr.enterLoop, run_getLoop hw']
    · cases hv

theorem endV_ok {f f' : Fr} {s s' : St} {L : Nat} {e : Ex} (hv : endV L f s = some (e, f', s')) :
    s.le s' ∧ VF s.h s'.h s'.W ∧ f' = f ∧ ∀ H σ w, Pre P s.h s'.h s'.R s'.W H σ w →
      ∃ H' w' jump, (Instr.endLoop (σ.b L)).run P w = .ok jump w' ∧ Step P s.h s'.h s'.W H H' σ σ w w' ∧ (match e with | .norm => jump = none | .ret => jump = some .ret | .exit id => jump = some (.exit id)) := by
  have key : ∀ lv, s.h.get L = some (.loop lv) → lv.state ≠ .busy → VF s.h (s.h.set L (.loop { lv with state := .exhausted })) (s.add (s.h.set L (.loop { lv with state := .exhausted })) [] [L]).W ∧ ∀ H σ w, Pre P s.h (s.h.set L (.loop { lv with state := .exhausted })) (s.add (s.h.set L (.loop { lv with state := .exhausted })) [] [L]).R (s.add (s.h.set L (.loop { lv with state := .exhausted })) [] [L]).W H σ w →
      ∃ H' w', (Instr.endLoop (σ.b L)).run P w = .ok lv.pending w' ∧ Step P s.h (s.h.set L (.loop { lv with state := .exhausted })) (s.add (s.h.set L (.loop { lv with state := .exhausted })) [] [L]).W H H' σ σ w w' := by
    intro lv hg hb
    have hln := Heap.get_lt hg
    have hW : (s.add (s.h.set L (.loop { lv with state := .exhausted })) [] [L]).W L := s.add_W _ _ _ L (by simp)
    refine ⟨vf_set hln _ hW, fun H σ w p => ?_⟩
    have hHl : H L = some (.loop lv) := by rw [p.agree L hln (.inr hW), hg]
    obtain ⟨loc, hloc, lp, hw, hrel⟩ := p.inv.rel L _ hHl rfl
    have hlt : loc.blk < w.heap.size := (Array.getElem?_eq_some_iff.1 hw).1
    refine ⟨_, _, ?_, step_set (w' := w.putObj loc.blk (.loop { lp with state := .exhausted })) p hg rfl hW hloc (putObj_size _ _ _) (fun k hk => World.putObj_heap_other hk) rfl rfl rfl ?_⟩
    · rw [Ren.b_eq hloc, run_endLoop hw (by rw [hrel.state]; exact hb), hrel.pending]
    · rw [World.putObj_heap_same hlt]
      exact ⟨_, rfl, { hrel with state := rfl }⟩
  unfold endV at hv
  split at hv
  · rename_i lv hg
    split at hv
    · cases hv
    · rename_i hb
      obtain ⟨k1, k2⟩ := key lv hg hb
      split at hv
      · rename_i hp; cases hv
        exact ⟨s.le_add _ _ _, k1, rfl, fun H σ w p => let ⟨H', w', h1, h2⟩ := k2 H σ w p; ⟨H', w', _, h1, h2, hp⟩⟩
      · rename_i hp; cases hv
        exact ⟨s.le_add _ _ _, k1, rfl, fun H σ w p => let ⟨H', w', h1, h2⟩ := k2 H σ w p; ⟨H', w', _, h1, h2, hp⟩⟩
      · rename_i id hp; cases hv
        exact ⟨s.le_add _ _ _, k1, rfl, fun H σ w p => let ⟨H', w', h1, h2⟩ := k2 H σ w p; ⟨H', w', _, h1, h2, hp⟩⟩
      · cases hv
  · cases hv

theorem evRange_ok {inv : InvT} (hi : InvGood P inv) {rd : Option Nat} {g : Operand} {ps : Array Tmp} {assign body : Code} {f f' : Fr} {s s' : St} {e : Ex} (hv : evRange P inv rd g ps assign body f s = some (e, f', s')) :
    s.le s' ∧ CodeOk P rd (.rangeFunc g ps assign body) f s.h e f' s'.h s'.R s'.W := by
  unfold evRange at hv
  split at hv
  · rename_i k xs ys hg
    split at hv
    · rename_i hc
      split at hv
      · rename_i L f1 s1 he
        split at hv
        · rename_i v2 s2 h2
          obtain ⟨l1, vf1, ht1, ok1⟩ := enterV_ok (P := P) he
          have l2 := hi.le _ _ _ _ _ h2
          have ok2 := hi.fn _ _ _ _ _ h2
          obtain ⟨l3, vf3, hf', ok3⟩ := endV_ok (P := P) hv
          subst hf'
          have vf1' := vf1.mono (St.le_trans l2 l3).W
          have ok2' := ok2.mono l3.R l3.W
          have vf12 := vf1'.trans ok2'.1
          refine ⟨St.le_trans l1 (St.le_trans l2 l3), vf12.trans vf3, fun H σ w a Q hl p hf hQ => ?_⟩
          refine wpIn_rangeFunc fun fn _ => ?_
          have p1 := (p.fst (h₁ := s1.h) (Nat.le_trans ok2'.1.n vf3.n)).mono (St.le_trans l2 l3).R (St.le_trans l2 l3).W
          obtain ⟨σ1, H1, w1, mark, hrun, hf1, hL, hs1⟩ := ok1 H σ w a fn hl p1 hf
          have hs1' := hs1.more vf1 (p.fst (h₁ := s1.h) (Nat.le_trans ok2'.1.n vf3.n)) (St.le_trans l2 l3).W
          have hg' : evV f'.tm g = some (.func k xs ys) := by rw [ht1]; exact hg
          have hgv : VRel σ1 (.func k xs ys) (({ a with defers := mark ++ a.defers } : Act).eval g) := ev_tmps _ (fun t u _ hu => hf1.tm.2 t u hu) hg'
          have hgv' : a.eval g = (V.func k xs ys).re σ1 := by rw [← hgv.2]; cases g <;> rfl
          refine ⟨σ1.b L, mark, w1, { target := .fn (.func k) (V.reL σ1 ys).toArray, args := (V.reL σ1 xs).toArray ++ #[.func (.yield (σ1.b L)) #[] #[]] }, w1, k, (V.reL σ1 ((xs ++ [.yield L]) ++ ys)).toArray, w1, hrun, ?_, fun _ _ => trivial, ?_, fun h => (by cases h), ?_⟩
          · simp only [resolve, rangeCall, hgv', V.re, Deferred.ofValue, Sem.run_pure]
            simp [Act.eval]
          · simp only [invoke]
            rw [run_callable hc]
            simp [reL_append, V.reL, V.re]
          · have p2 := p.snd vf1' hs1'
            refine CallsIn.mono (ok2'.2 H1 σ1 w1 (p2.fst vf3.n) (onL_append (onL_append hgv.1.1 ⟨hL, trivial⟩) hgv.1.2)) ?_
            rintro e2 w2 ⟨x, σ2, H2, rfl, hx, hs2⟩
            have p3 := p2.snd ok2'.1 hs2
            obtain ⟨H3, w3, jump, hend, hs3, hj⟩ := ok3 H2 σ2 w2 p3
            have hLb : σ2.b L = σ1.b L := Ren.b_le hs2.goes.le hL
            rw [hLb] at hend
            refine ⟨jump, w3, hend, ?_⟩
            have hfin := hQ σ2 H3 _ w3 (hf1.le hs2.goes.le) (Step.trans p vf12 vf3 (Step.trans (p.fst vf3.n) vf1' ok2'.1 hs1' hs2) hs3)
            cases e with
            | norm => simp only at hj; subst hj; exact hfin
            | ret => simp only at hj; subst hj; exact wpIn_ret hfin
            | exit id => simp only at hj; subst hj; exact wpIn_exit hfin
        · cases hv
      · cases hv
    · cases hv
  · cases hv

theorem evCode_ok (hm : P.follows .mixedOrders = true) {inv : InvT} (hi : InvGood P inv) (L : Nat) (rd : Option Nat) : ∀ (c : Code) (f f' : Fr) (s s' : St) (e : Ex), evCode P inv L rd c f s = some (e, f', s') →
    s.le s' ∧ CodeOk P rd c f s.h e f' s'.h s'.R s'.W := by
  intro c
  induction c with
  | skip =>
    intro f f' s s' e hv
    simp only [evCode] at hv; cases hv
    exact ⟨St.le_refl _, VF.refl _ _, fun H σ w a Q hl p hf hQ => wpIn_skip (hQ σ H a w hf (Step.refl p.inv fun b hb hw => p.agree b hb (.inr hw)))⟩
  | label l =>
    intro f f' s s' e hv
    simp only [evCode] at hv; cases hv
    exact ⟨St.le_refl _, VF.refl _ _, fun H σ w a Q hl p hf hQ => wpIn_label (hQ σ H a w hf (Step.refl p.inv fun b hb hw => p.agree b hb (.inr hw)))⟩
  | exit id =>
    intro f f' s s' e hv
    simp only [evCode] at hv; cases hv
    exact ⟨St.le_refl _, VF.refl _ _, fun H σ w a Q hl p hf hQ => wpIn_exit (hQ σ H a w hf (Step.refl p.inv fun b hb hw => p.agree b hb (.inr hw)))⟩
  | ret =>
    intro f f' s s' e hv
    simp only [evCode] at hv; cases hv
    exact ⟨St.le_refl _, VF.refl _ _, fun H σ w a Q hl p hf hQ => wpIn_ret (hQ σ H a w hf (Step.refl p.inv fun b hb hw => p.agree b hb (.inr hw)))⟩
  | goto l => intro f f' s s' e hv; simp only [evCode] at hv; cases hv
  | refuse why => intro f f' s s' e hv; simp only [evCode] at hv; cases hv
  | region id ops draw =>
    intro f f' s s' e hv
    simp only [evCode] at hv
    split at hv
    · split at hv
      · rename_i tm s1 h1
        cases hv
        obtain ⟨l1, vf1, ok1⟩ := evOps_ok hi ops ops.toList 0 _ _ _ _ (by simp) h1
        refine ⟨l1, vf1, fun H σ w a Q hl p hf hQ => wpIn_region ?_⟩
        have := ok1 (rd.map σ.b) H σ w a Q p hf.tm fun σ' H' a' w' hd ht hs => hQ σ' H' a' w' ⟨ht, by rw [hd, marks_le hs.goes.le hf.on]; exact hf.mks, fun b hb => Ren.is_le hs.goes.le (hf.on b hb)⟩ hs
        simpa [List.range_eq_range'] using this
      · cases hv
    · split at hv
      · rename_i tm s1 h1
        cases hv
        obtain ⟨l1, vf1, ok1⟩ := evDraw_ok hm hi ops h1
        refine ⟨l1, vf1, fun H σ w a Q hl p hf hQ => ?_⟩
        exact ok1 (rd.map σ.b) id H σ w a Q p hf.tm fun σ' H' a' w' hd ht hs => hQ σ' H' a' w' ⟨ht, by rw [hd, marks_le hs.goes.le hf.on]; exact hf.mks, fun b hb => Ren.is_le hs.goes.le (hf.on b hb)⟩ hs
      · cases hv
  | seq x y ihx ihy =>
    intro f f' s s' e hv
    simp only [evCode] at hv
    split at hv
    · rename_i f1 s1 h1
      obtain ⟨l1, ok1⟩ := ihx _ _ _ _ _ h1
      obtain ⟨l2, ok2⟩ := ihy _ _ _ _ _ hv
      have ok1' := ok1.mono l2.R l2.W
      refine ⟨St.le_trans l1 l2, ok1'.1.trans ok2.1, fun H σ w a Q hl p hf hQ => wpIn_seq ?_⟩
      refine ok1'.2 H σ w a _ hl (p.fst ok2.1.n) hf fun σ1 H1 a1 w1 hf1 hs1 => ?_
      have hrd : FW (rd.map σ1.b) = FW (rd.map σ.b) := by
        cases rd with
        | none => rfl
        | some l => simp only [Option.map_some]; rw [Ren.b_le hs1.goes.le (hl l rfl)]
      have := ok2.2 H1 σ1 w1 a1 Q (fun l h => Ren.is_le hs1.goes.le (hl l h)) (p.snd ok1'.1 hs1) hf1 fun σ2 H2 a2 w2 hf2 hs2 => hQ σ2 H2 a2 w2 hf2 (Step.trans p ok1'.1 ok2.1 hs1 hs2)
      rw [hrd] at this
      exact this
    · rename_i r hne
      obtain ⟨l1, ok1⟩ := ihx _ _ _ _ _ hv
      refine ⟨l1, ok1.1, fun H σ w a Q hl p hf hQ => wpIn_seq ?_⟩
      refine ok1.2 H σ w a _ hl p hf fun σ1 H1 a1 w1 hf1 hs1 => ?_
      have := hQ σ1 H1 a1 w1 hf1 hs1
      cases e with
      | norm => exact absurd hv (hne _ _)
      | ret => exact this
      | exit id => exact this
  | cond c x y ihx ihy =>
    intro f f' s s' e hv
    simp only [evCode] at hv
    split at hv
    · rename_i hc
      obtain ⟨l1, ok1⟩ := ihx _ _ _ _ _ hv
      refine ⟨l1, ok1.1, fun H σ w a Q hl p hf hQ => ?_⟩
      have hcv : VRel σ (.bool true) (a.eval c) := by obtain ⟨tmps, ds⟩ := a; exact ev_tmps ds (fun t u _ hu => hf.tm.2 t u hu) hc
      exact wpIn_cond_true hcv.2 (ok1.2 H σ w a Q hl p hf hQ)
    · rename_i hc
      obtain ⟨l1, ok1⟩ := ihy _ _ _ _ _ hv
      refine ⟨l1, ok1.1, fun H σ w a Q hl p hf hQ => ?_⟩
      have hcv : VRel σ (.bool false) (a.eval c) := by obtain ⟨tmps, ds⟩ := a; exact ev_tmps ds (fun t u _ hu => hf.tm.2 t u hu) hc
      exact wpIn_cond_false hcv.2 (ok1.2 H σ w a Q hl p hf hQ)
    · cases hv
  | block id x ih =>
    intro f f' s s' e hv
    simp only [evCode] at hv
    split at hv
    · rename_i id' f1 s1 h1
      obtain ⟨l1, ok1⟩ := ih _ _ _ _ _ h1
      split at hv
      · rename_i hb
        cases hv
        refine ⟨l1, ok1.1, fun H σ w a Q hl p hf hQ => wpIn_block ?_⟩
        refine ok1.2 H σ w a _ hl p hf fun σ1 H1 a1 w1 hf1 hs1 => ?_
        have := hQ σ1 H1 a1 w1 hf1 hs1
        simpa [Ex.to, Exit.inBlock, Nat.eq_of_beq_eq_true hb] using this
      · rename_i hb
        cases hv
        refine ⟨l1, ok1.1, fun H σ w a Q hl p hf hQ => wpIn_block ?_⟩
        refine ok1.2 H σ w a _ hl p hf fun σ1 H1 a1 w1 hf1 hs1 => ?_
        have := hQ σ1 H1 a1 w1 hf1 hs1
        have hne : id' ≠ id := fun e => by subst e; simp at hb
        simpa [Ex.to, Exit.inBlock, hne] using this
    · rename_i r hne
      obtain ⟨l1, ok1⟩ := ih _ _ _ _ _ hv
      refine ⟨l1, ok1.1, fun H σ w a Q hl p hf hQ => wpIn_block ?_⟩
      refine ok1.2 H σ w a _ hl p hf fun σ1 H1 a1 w1 hf1 hs1 => ?_
      have := hQ σ1 H1 a1 w1 hf1 hs1
      cases e with
      | norm => exact this
      | ret => exact this
      | exit id' => exact absurd hv (hne _ _ _)
  | loop x ih =>
    intro f f' s s' e hv
    simp only [evCode] at hv
    have key : ∀ (k : Nat) (f : Fr) (s : St), loopN (evCode P inv L rd x) k f s = some (e, f', s') → s.le s' ∧ VF s.h s'.h s'.W ∧ ∀ H σ w a Q, (∀ l, rd = some l → σ.is l) → Pre P s.h s'.h s'.R s'.W H σ w → FRel σ f a →
        (∀ σ' H' a' w', FRel σ' f' a' → Step P s.h s'.h s'.W H H' σ σ' w w' → Q e.to a' w') → LoopIn (FW (rd.map σ.b)) 0 P x Q a w := by
      intro k
      induction k with
      | zero => intro f s h; simp only [loopN] at h; cases h
      | succ k ihk =>
        intro f s h
        simp only [loopN] at h
        split at h
        · rename_i f1 s1 h1
          obtain ⟨l1, ok1⟩ := ih _ _ _ _ _ h1
          obtain ⟨l2, vf2, ok2⟩ := ihk _ _ h
          have ok1' := ok1.mono l2.R l2.W
          refine ⟨St.le_trans l1 l2, ok1'.1.trans vf2, fun H σ w a Q hl p hf hQ => loopIn_round ?_⟩
          refine ok1'.2 H σ w a _ hl (p.fst vf2.n) hf fun σ1 H1 a1 w1 hf1 hs1 => ?_
          have hrd : FW (rd.map σ1.b) = FW (rd.map σ.b) := by
            cases rd with
            | none => rfl
            | some l => simp only [Option.map_some]; rw [Ren.b_le hs1.goes.le (hl l rfl)]
          have := ok2 H1 σ1 w1 a1 Q (fun l h => Ren.is_le hs1.goes.le (hl l h)) (p.snd ok1'.1 hs1) hf1 fun σ2 H2 a2 w2 hf2 hs2 => hQ σ2 H2 a2 w2 hf2 (Step.trans p ok1'.1 vf2 hs1 hs2)
          rw [hrd] at this
          exact this
        · rename_i r hne
          obtain ⟨l1, ok1⟩ := ih _ _ _ _ _ h
          refine ⟨l1, ok1.1, fun H σ w a Q hl p hf hQ => loopIn_round ?_⟩
          refine ok1.2 H σ w a _ hl p hf fun σ1 H1 a1 w1 hf1 hs1 => ?_
          have := hQ σ1 H1 a1 w1 hf1 hs1
          cases e with
          | norm => exact absurd h (hne _ _)
          | ret => exact this
          | exit id => exact this
    obtain ⟨l1, vf1, ok1⟩ := key L f s hv
    exact ⟨l1, vf1, fun H σ w a Q hl p hf hQ => wpIn_loopIn (ok1 H σ w a Q hl p hf hQ)⟩
  | scope x ih =>
    intro f f' s s' e hv
    simp only [evCode] at hv
    obtain ⟨l1, ok1⟩ := ih _ _ _ _ _ hv
    refine ⟨l1, ok1.1, fun H σ w a Q hl p hf hQ => wpIn_scope ?_⟩
    refine ok1.2 H σ w a _ hl p hf fun σ1 H1 a1 w1 hf1 hs1 => ?_
    have := hQ σ1 H1 a1 w1 hf1 hs1
    cases e <;> exact this
  | rangeFunc g ps assign body _ _ =>
    intro f f' s s' e hv
    simp only [evCode] at hv
    exact evRange_ok hi hv

end Go.Vm
