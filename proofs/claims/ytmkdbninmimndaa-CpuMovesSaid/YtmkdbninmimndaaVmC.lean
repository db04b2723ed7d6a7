/- Small steps of a virtual state: a new block, a block written; operands; what a plain operation owes. -/
import Derived.Test.YtmkdbninmimndaaVmB
import Derived.Laws.Rows
import Derived.Laws.CopyRow
import Derived.Laws.Cells
import Derived.Laws.Entries
import Derived.Laws.Tables
import Derived.Laws.World
set_option linter.unusedVariables false
set_option linter.unusedSimpArgs false
namespace Go.Vm
variable {P : Program}

def Ren.upd (σ : Ren) (b : Nat) (l : Loc) : Ren := fun x => if x = b then some l else σ x
theorem Ren.upd_same (σ : Ren) (b : Nat) (l : Loc) : σ.upd b l b = some l := by simp [Ren.upd]
theorem Ren.upd_ne (σ : Ren) {b c : Nat} (l : Loc) (h : c ≠ b) : σ.upd b l c = σ c := by simp [Ren.upd, h]
theorem Ren.le_upd {σ : Ren} {b : Nat} (hb : σ b = none) (l : Loc) : σ.le (σ.upd b l) := fun x m h => by
  by_cases e : x = b
  · subst e; rw [hb] at h; cases h
  · rw [Ren.upd_ne σ l e]; exact h

def HF.upd (H : HF) (b : Nat) (o : O) : HF := fun x => if x = b then some o else H x
theorem HF.upd_same (H : HF) (b : Nat) (o : O) : HF.upd H b o b = some o := by simp [HF.upd]
theorem HF.upd_ne (H : HF) {b c : Nat} (o : O) (h : c ≠ b) : HF.upd H b o c = H c := by simp [HF.upd, h]

theorem heap_alloc_new (w : World) (o : Obj) : (w.alloc o).heap[w.heap.size]? = some o := by show (w.heap.push o)[w.heap.size]? = _; simp
theorem heap_alloc_old (w : World) (o : Obj) {r : Nat} (h : r < w.heap.size) : (w.alloc o).heap[r]? = w.heap[r]? := by
  show (w.heap.push o)[r]? = _; rw [Array.getElem?_push_lt h, Array.getElem?_eq_getElem h]

/-- A new block. -/
theorem goes_push {H : HF} {σ : Ren} {w : World} (hi : Inv P H σ w) {n : Nat} (hσ : σ n = none) (hH : H n = none) {o : O} {o' : Obj} (s : Nat) {N W : Nat → Prop} (hN : ∀ b, N b ↔ b = n)
    (hd : o.isDead = false) (hr : BRel P (σ.upd n ⟨w.heap.size, 0, s⟩) ⟨w.heap.size, 0, s⟩ o (some o')) :
    Goes P N W H (HF.upd H n o) σ (σ.upd n ⟨w.heap.size, 0, s⟩) w (w.alloc o') := by
  have hle := Ren.le_upd hσ ⟨w.heap.size, 0, s⟩
  have hlive : ∀ b, b ≠ n → liveIn (HF.upd H n o) b → liveIn H b := fun b hb ⟨x, hx, hx'⟩ => ⟨x, by rwa [HF.upd_ne H o hb] at hx, hx'⟩
  have hsz : ∀ b l, b ≠ n → liveIn (HF.upd H n o) b → σ.upd n ⟨w.heap.size, 0, s⟩ b = some l → l.blk < w.heap.size := fun b l hb hl hs => hi.lt (hlive b hb hl) (by rwa [Ren.upd_ne σ _ hb] at hs)
  obtain ⟨N0, hN0⟩ := hi.fin
  have hfin : ∃ N, ∀ b, N ≤ b → σ.upd n ⟨w.heap.size, 0, s⟩ b = none ∧ HF.upd H n o b = none := ⟨max N0 (n + 1), fun b hb => by
    have hne : b ≠ n := by omega
    rw [Ren.upd_ne σ _ hne, HF.upd_ne H o hne]; exact hN0 b (by omega)⟩
  refine ⟨hle, ?_, ⟨?_, ?_, hfin⟩, ?_, ?_, ?_, ?_, by simp, rfl, rfl, rfl⟩
  · intro b l h
    by_cases e : b = n
    · exact .inr ((hN b).2 e)
    · rw [Ren.upd_ne σ _ e] at h; exact .inl h
  · intro b x hb hx
    by_cases e : b = n
    · subst e
      rw [HF.upd_same] at hb; cases hb
      exact ⟨_, Ren.upd_same σ b _, by rw [heap_alloc_new]; exact hr⟩
    · rw [HF.upd_ne H o e] at hb
      obtain ⟨l, hl, hrel⟩ := hi.rel b x hb hx
      have := hi.lt ⟨x, hb, hx⟩ hl
      exact ⟨l, by rw [Ren.upd_ne σ _ e]; exact hl, by rw [heap_alloc_old w o' this]; exact hrel.le hle⟩
  · intro a b la lb ha hb hsa hsb he
    by_cases ea : a = n
    · by_cases eb : b = n
      · rw [ea, eb]
      · have := hsz b lb eb hb hsb
        subst ea; rw [Ren.upd_same] at hsa; cases hsa; simp at he; omega
    · by_cases eb : b = n
      · have := hsz a la ea ha hsa
        subst eb; rw [Ren.upd_same] at hsb; cases hsb; simp at he; omega
      · rw [Ren.upd_ne σ _ ea] at hsa; rw [Ren.upd_ne σ _ eb] at hsb
        exact hi.inj a b la lb (hlive a ea ha) (hlive b eb hb) hsa hsb he
  · intro b _ hn; exact HF.upd_ne H o fun e => hn ((hN b).2 e)
  · intro b hn hl; exact hlive b (fun e => hn ((hN b).2 e)) hl
  · intro b l hn _ hs
    obtain rfl := (hN b).1 hn
    rw [Ren.upd_same] at hs; cases hs
    exact .inl (Nat.le_refl _)
  · intro k hk _; exact heap_alloc_old w o' hk

/-- A block that is written; its real block is written alike. -/
theorem goes_set {H : HF} {σ : Ren} {w w' : World} (hi : Inv P H σ w) {b : Nat} {l : Loc} (hb : liveIn H b) (hl : σ b = some l) {o : O} {N W : Nat → Prop} (hN : ∀ b, ¬ N b) (hW : W b)
    (hsz : w'.heap.size = w.heap.size) (hoth : ∀ k, k ≠ l.blk → w'.heap[k]? = w.heap[k]?) (e2 : w'.os = w.os) (e3 : w'.tape = w.tape) (e4 : w'.output = w.output)
    (hr : BRel P σ l o w'.heap[l.blk]?) (hd : o.isDead = false) : Goes P N W H (HF.upd H b o) σ σ w w' := by
  have hlive : ∀ c, liveIn (HF.upd H b o) c → liveIn H c := fun c ⟨x, hx, hx'⟩ => by
    by_cases e : c = b
    · subst e; exact hb
    · exact ⟨x, by rwa [HF.upd_ne H o e] at hx, hx'⟩
  obtain ⟨N0, hN0⟩ := hi.fin
  have hfin : ∃ N, ∀ c, N ≤ c → σ c = none ∧ HF.upd H b o c = none := ⟨N0, fun c hc => by
    have h1 := hN0 c hc
    refine ⟨h1.1, ?_⟩
    have hne : c ≠ b := fun e => by subst e; rw [hl] at h1; cases h1.1
    rw [HF.upd_ne H o hne]; exact h1.2⟩
  refine ⟨Ren.le_refl _, fun _ _ h => .inl h, ⟨?_, fun a c la lc ha hc => hi.inj a c la lc (hlive a ha) (hlive c hc), hfin⟩, ?_, fun c _ hc => hlive c hc, fun c _ hn => absurd hn (hN c), ?_, by omega, e2, e3, e4⟩
  · intro c x hc hx
    by_cases e : c = b
    · subst e
      rw [HF.upd_same] at hc; cases hc
      exact ⟨l, hl, hr⟩
    · rw [HF.upd_ne H o e] at hc
      obtain ⟨m, hm, hrel⟩ := hi.rel c x hc hx
      refine ⟨m, hm, ?_⟩
      rw [hoth m.blk fun he => e (hi.inj c b m l ⟨x, hc, hx⟩ hb hm hl he)]
      exact hrel
  · intro c hw _; exact HF.upd_ne H o fun e => hw (e ▸ hW)
  · intro k hk hne
    exact hoth k fun e => hne b l hb hl e.symm hW

/-! ### operands -/
mutual
def toV : Nat → Value → Option V
  | 0, _ => none
  | d + 1, c => match c with
    | .bool b => some (.bool b)
    | .int k n => some (.int k n)
    | .string s => some (.str s)
    | .pointer none => some (.ptr none)
    | .slice none n c => some (.slice none n c true)
    | .map none => some (.map none)
    | .nilFunc => some .nilFunc
    | .nilIface => some .nilIface
    | .tuple vs => match toVL d vs.toList with
      | some l => some (.tuple l)
      | none => none
    | .agg vs => match toVL d vs.toList with
      | some l => some (.agg l)
      | none => none
    | _ => none
def toVL : Nat → List Value → Option (List V)
  | 0, _ => none
  | _ + 1, [] => some []
  | d + 1, c :: r => match toV d c with
    | some v => match toVL d r with
      | some l => some (v :: l)
      | none => none
    | none => none
end

theorem toV_both : ∀ d, (∀ (c : Value) (v : V), toV d c = some v → ∀ σ : Ren, v.on σ ∧ v.re σ = c) ∧ (∀ (c : List Value) (v : List V), toVL d c = some v → ∀ σ : Ren, V.onL σ v ∧ V.reL σ v = c) := by
  intro d
  induction d with
  | zero => exact ⟨fun c v h => by simp [toV] at h, fun c v h => by simp [toVL] at h⟩
  | succ d ih =>
    constructor
    · intro c v h σ
      unfold toV at h
      split at h <;> (try cases h) <;> (try exact ⟨trivial, rfl⟩)
      · rename_i vs
        split at h
        · rename_i l hl; cases h
          have := ih.2 _ _ hl σ
          exact ⟨this.1, by simp [V.re, this.2]⟩
        · cases h
      · rename_i vs
        split at h
        · rename_i l hl; cases h
          have := ih.2 _ _ hl σ
          exact ⟨this.1, by simp [V.re, this.2]⟩
        · cases h
    · intro c v h σ
      cases c with
      | nil => simp only [toVL] at h; cases h; exact ⟨trivial, rfl⟩
      | cons c r =>
        simp only [toVL] at h
        split at h
        · rename_i u hu
          split at h
          · rename_i l hl; cases h
            have h1 := ih.1 _ _ hu σ
            have h2 := ih.2 _ _ hl σ
            exact ⟨⟨h1.1, h2.1⟩, by simp [V.reL, h1.2, h2.2]⟩
          · cases h
        · cases h

def evV (tm : Tm) : Operand → Option V
  | .tmp t => tm.get t
  | .const c => toV 100 c
  | .global _ => none
  | .func f => some (.func f [] [])

/-- The operands of an operation are known. -/
def EvOn (σ : Ren) (tm : Tm) (o : Oper) (ρ : Operand → Value) : Prop := ∀ x ∈ o.op.operands, ∀ v, evV tm x = some v → VRel σ v (ρ x)
theorem ev_tmps {σ : Ren} {tm : Tm} {arr : Array Value} (ds : List Deferred) {x : Operand} {v : V} (h : ∀ t u, x = .tmp t → tm.get t = some u → VRel σ u (arr.getD t undef)) (hv : evV tm x = some v) : VRel σ v (Act.eval ⟨arr, ds⟩ x) := by
  cases x with
  | tmp t => exact h t v rfl hv
  | const c => have := (toV_both 100).1 c v hv σ; exact ⟨this.1, this.2.symm⟩
  | global g => cases hv
  | func f => cases hv; exact ⟨⟨trivial, trivial⟩, by simp [Act.eval, V.re, V.reL]⟩
theorem TRel.ev {σ : Ren} {tm : Tm} {arr : Array Value} (h : TRel σ tm arr) (ds : List Deferred) (o : Oper) : EvOn σ tm o (Act.eval ⟨arr, ds⟩) :=
  fun _ _ _ hv => ev_tmps ds (fun t u _ hu => h.2 t u hu) hv

def evVs (tm : Tm) : List Operand → Option (List V)
  | [] => some []
  | x :: r => match evV tm x with
    | some v => match evVs tm r with
      | some vs => some (v :: vs)
      | none => none
    | none => none
theorem evVs_rel {σ : Ren} {tm : Tm} {ρ : Operand → Value} : ∀ (l : List Operand) (vs : List V), (∀ x ∈ l, ∀ v, evV tm x = some v → VRel σ v (ρ x)) → evVs tm l = some vs → V.onL σ vs ∧ l.map ρ = V.reL σ vs
  | [], vs, _, h => by cases h; exact ⟨trivial, rfl⟩
  | x :: r, vs, he, h => by
    unfold evVs at h
    split at h
    · rename_i v hv
      split at h
      · rename_i us hus; cases h
        have h1 := he x (by simp) v hv
        have h2 := evVs_rel r us (fun y hy => he y (by simp [hy])) hus
        exact ⟨⟨h1.1, h2.1⟩, by simp [V.reL, h1.2, h2.2]⟩
      · cases h
    · cases h

/-! ### what a plain operation owes -/
structure Pr where
  v : V
  h : Heap
  r : List Nat
  w : List Nat

def PrimOk (P : Program) (tm : Tm) (o : Oper) (h : Heap) (pr : Pr) : Prop :=
  h.n ≤ pr.h.n ∧ (∀ b, b < h.n → b ∉ pr.w → pr.h.get b = h.get b) ∧ (∀ b, b ∈ pr.r ∨ b ∈ pr.w → b < h.n) ∧
  ∀ (H : HF) (σ : Ren) (w : World) (ρ : Operand → Value), EvOn σ tm o ρ → (∀ b, b ∈ pr.r ∨ b ∈ pr.w → H b = h.get b) → (∀ b, h.n ≤ b → b < pr.h.n → σ b = none ∧ H b = none) → Inv P H σ w →
    ∃ σ' w' H' nx x, (execOp ρ o).run P w = .ok nx w' ∧ (nx = .value x ∨ nx = .skip ∧ x = undef) ∧ VRel σ' pr.v x ∧
      Goes P (fun b => h.n ≤ b ∧ b < pr.h.n) (· ∈ pr.w) H H' σ σ' w w' ∧ ∀ b, (h.n ≤ b ∧ b < pr.h.n) ∨ b ∈ pr.w → H' b = pr.h.get b

/-- An operation that only looks. -/
theorem PrimOk.read {tm : Tm} {o : Oper} {h : Heap} {v : V} {rs : List Nat}
    (hrun : ∀ (H : HF) σ w ρ, EvOn σ tm o ρ → (∀ b, b ∈ rs → H b = h.get b) → Inv P H σ w → v.on σ ∧ (execOp ρ o).run P w = .ok (.value (v.re σ)) w) (hrs : ∀ b ∈ rs, b < h.n := by simp) : PrimOk P tm o h ⟨v, h, rs, []⟩ :=
  ⟨Nat.le_refl _, fun _ _ _ => rfl, fun b hb => by simp at hb; exact hrs b hb, fun H σ w ρ he hr _ hi =>
    have h := hrun H σ w ρ he (fun b hb => hr b (.inl hb)) hi
    ⟨σ, w, H, _, _, h.2, .inl rfl, ⟨h.1, rfl⟩, Goes.refl hi (fun b hb => by dsimp only at hb; omega), fun b hb => by simp at hb; omega⟩⟩
theorem PrimOk.pure {tm : Tm} {o : Oper} {h : Heap} {v : V}
    (hrun : ∀ σ w ρ, EvOn σ tm o ρ → v.on σ ∧ (execOp ρ o).run P w = .ok (.value (v.re σ)) w) : PrimOk P tm o h ⟨v, h, [], []⟩ :=
  PrimOk.read fun _ σ w ρ he _ _ => hrun σ w ρ he
/-- One that makes a block. -/
theorem PrimOk.make {tm : Tm} {o : Oper} {h : Heap} {v : V} {x : O} {rs : List Nat} (hx : x.isDead = false)
    (hrun : ∀ (H : HF) σ w ρ, EvOn σ tm o ρ → (∀ b, b ∈ rs → H b = h.get b) → Inv P H σ w → σ h.n = none →
      ∃ (w1 : World) (o' : Obj) (s : Nat), w1.heap = w.heap ∧ w1.os = w.os ∧ w1.tape = w.tape ∧ w1.output = w.output ∧
        BRel P (σ.upd h.n ⟨w.heap.size, 0, s⟩) ⟨w.heap.size, 0, s⟩ x (some o') ∧ v.on (σ.upd h.n ⟨w.heap.size, 0, s⟩) ∧
        (execOp ρ o).run P w = .ok (.value (v.re (σ.upd h.n ⟨w.heap.size, 0, s⟩))) (w1.alloc o')) (hrs : ∀ b ∈ rs, b < h.n := by simp) : PrimOk P tm o h ⟨v, h.push x, rs, []⟩ := by
  refine ⟨by simp, fun b hb _ => by rw [Heap.get_push, if_neg (by omega)], fun b hb => by simp at hb; exact hrs b hb, fun H σ w ρ he hr hf hi => ?_⟩
  have hfn := hf h.n (Nat.le_refl _) (by simp)
  obtain ⟨w1, o', s, e1, e2, e3, e4, hB, hv, hrun⟩ := hrun H σ w ρ he (fun b hb => hr b (.inl hb)) hi hfn.1
  have hi1 : Inv P H σ w1 := hi.heap e1
  have hsz : w1.heap.size = w.heap.size := by rw [e1]
  have g := goes_push (W := (· ∈ ([] : List Nat))) hi1 hfn.1 hfn.2 s (N := fun b => h.n ≤ b ∧ b < (h.push x).n) (fun b => by simp; omega) hx (o' := o') (by rw [hsz]; exact hB)
  rw [hsz] at g
  refine ⟨_, _, HF.upd H h.n x, _, _, hrun, .inl rfl, ⟨hv, rfl⟩, ?_, fun b hb => ?_⟩
  · exact { g with
      fresh := fun b l hb hl hs => by have := g.fresh b l hb hl hs; rwa [hsz] at this
      real := fun k hk hne => by rw [g.real k (by omega) hne, e1]
      size := by have := g.size; omega
      os := g.os.trans e2, tape := g.tape.trans e3, output := g.output.trans e4 }
  · have : b = h.n := by simp at hb; omega
    subst this
    rw [HF.upd_same, Heap.get_push, if_pos rfl]
/-- One that writes a block. -/
theorem PrimOk.write {tm : Tm} {o : Oper} {h : Heap} {v : V} {b : Nat} {x y : O} {rs : List Nat} (hg : h.get b = some x) (hx : x.isDead = false) (hy : y.isDead = false)
    (hrun : ∀ (H : HF) σ w ρ, EvOn σ tm o ρ → (∀ c, c ∈ rs → H c = h.get c) → Inv P H σ w → ∀ l, σ b = some l → BRel P σ l x w.heap[l.blk]? →
      ∃ (w' : World) (nx : Next) (z : Value), w'.heap.size = w.heap.size ∧ (∀ k, k ≠ l.blk → w'.heap[k]? = w.heap[k]?) ∧ w'.os = w.os ∧ w'.tape = w.tape ∧ w'.output = w.output ∧
        BRel P σ l y w'.heap[l.blk]? ∧ (nx = .value z ∨ nx = .skip ∧ z = undef) ∧ VRel σ v z ∧ (execOp ρ o).run P w = .ok nx w') (hrs : ∀ b ∈ rs, b < h.n := by simp) : PrimOk P tm o h ⟨v, h.set b y, rs, [b]⟩ := by
  have hbn := Heap.get_lt hg
  refine ⟨by simp, fun c hc hw => by rw [Heap.get_set h b c y hbn, if_neg (by simpa using hw)], fun c hc => by
    rcases hc with hc | hc
    · exact hrs c hc
    · simp at hc; subst hc; exact hbn, fun H σ w ρ he hr hf hi => ?_⟩
  have hHb : H b = some x := by rw [hr b (.inr (by simp)), hg]
  obtain ⟨l, hl, hB⟩ := hi.rel b x hHb hx
  obtain ⟨w', nx, z, e1, e2, e3, e4, e5, hB', hnx, hv, hrun⟩ := hrun H σ w ρ he (fun c hc => hr c (.inl hc)) hi l hl hB
  refine ⟨σ, w', HF.upd H b y, nx, z, hrun, hnx, hv, goes_set hi ⟨x, hHb, hx⟩ hl (fun c hc => by simp at hc; omega) (by simp) e1 e2 e3 e4 e5 hB' hy, fun c hc => ?_⟩
  have : c = b := by simp at hc; omega
  subst this
  rw [HF.upd_same, Heap.get_set h c c y hbn, if_pos rfl]

end Go.Vm
