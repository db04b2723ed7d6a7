/- Virtual heaps, temporaries, and how a virtual state stands for a real one. -/
import Derived.Test.YtmkdbninmimndaaVmA
set_option linter.unusedVariables false
set_option linter.unusedSimpArgs false
namespace Go.Vm

/-! ### temporaries -/
structure Tm where
  n : Nat
  tr : Tr V
def Tm.get (t : Tm) (i : Nat) : Option V := t.tr.get i
def Tm.set (t : Tm) (i : Nat) (v : V) : Tm := match Nat.blt i t.n with
  | true => { t with tr := t.tr.set i v }
  | false => t
theorem blt_true {a b : Nat} (h : a < b) : Nat.blt a b = true := by simp [Nat.blt_eq, h]
theorem blt_false {a b : Nat} (h : ¬ a < b) : Nat.blt a b = false := by
  cases hb : Nat.blt a b with
  | true => exact absurd (Nat.blt_eq.mp hb) h
  | false => rfl
theorem Tm.n_set (t : Tm) (i : Nat) (v : V) : (t.set i v).n = t.n := by unfold Tm.set; split <;> rfl
theorem Tm.get_set (t : Tm) (i j : Nat) (v : V) (h : i < t.n) : (t.set i v).get j = if j = i then some v else t.get j := by
  simp only [Tm.set, blt_true h, Tm.get, Tr.get_set]
theorem Tm.get_set_ne (t : Tm) (i j : Nat) (v : V) (hne : j ≠ i) : (t.set i v).get j = t.get j := by
  by_cases h : i < t.n
  · simp [Tm.get_set t i j v h, hne]
  · simp [Tm.set, blt_false h]

def Tm.put (t : Tm) (d : Option Tmp) (v : V) : Tm := match d with
  | some i => t.set i v
  | none => t

/-! ### objects and heaps -/
structure Loopv where
  state : LoopState
  pending : Option Code
  tmps : Tm
  params : List Tmp
  assign : Code
  body : Code
  defers : Nat

inductive O where
  | cells (c : Blk) (elem : TypeId)
  | map (es : List (V × V × Nat)) (clock : Nat)
  | iter (m : Option Nat) (since : Nat) (seen : List Nat) (stepped : Nat)
  | loop (l : Loopv)
  | deferred (isOpen : Bool)
  | dead

structure Heap where
  n : Nat
  tr : Tr O
def Heap.get (h : Heap) (b : Nat) : Option O := match Nat.blt b h.n with
  | true => h.tr.get b
  | false => none
def Heap.set (h : Heap) (b : Nat) (o : O) : Heap := { h with tr := h.tr.set b o }
def Heap.push (h : Heap) (o : O) : Heap := { n := h.n + 1, tr := h.tr.set h.n o }

theorem Heap.get_lt {h : Heap} {b : Nat} {o : O} (e : h.get b = some o) : b < h.n := by
  unfold Heap.get at e
  split at e
  · rename_i hb; exact Nat.blt_eq.mp hb
  · cases e
theorem Heap.get_ge {h : Heap} {b : Nat} (e : h.n ≤ b) : h.get b = none := by
  cases hg : h.get b with
  | none => rfl
  | some o => have := Heap.get_lt hg; omega
@[simp] theorem Heap.n_set (h : Heap) (b : Nat) (o : O) : (h.set b o).n = h.n := rfl
@[simp] theorem Heap.n_push (h : Heap) (o : O) : (h.push o).n = h.n + 1 := rfl
theorem Heap.get_set (h : Heap) (b c : Nat) (o : O) (hb : b < h.n) : (h.set b o).get c = if c = b then some o else h.get c := by
  unfold Heap.get
  by_cases hc : c < h.n
  · simp only [Heap.n_set, blt_true hc, Heap.set, Tr.get_set]
  · simp only [Heap.n_set, blt_false hc]
    rw [if_neg (by omega)]
theorem Heap.get_push (h : Heap) (c : Nat) (o : O) : (h.push o).get c = if c = h.n then some o else h.get c := by
  unfold Heap.get
  by_cases hc : c < h.n
  · rw [if_neg (by omega)]
    simp only [Heap.n_push, blt_true (show c < h.n + 1 by omega), blt_true hc, Heap.push, Tr.get_set]
    rw [if_neg (by omega)]
  · by_cases he : c = h.n
    · subst he
      simp [blt_true (Nat.lt_succ_self h.n), Heap.push, Tr.get_set]
    · simp only [Heap.n_push, blt_false (show ¬ c < h.n + 1 by omega), blt_false hc, if_neg he]

def O.isDead : O → Bool
  | .dead => true
  | _ => false

/-! ### what stands for what -/
def TRel (σ : Ren) (t : Tm) (arr : Array Value) : Prop := arr.size = t.n ∧ ∀ i v, t.get i = some v → VRel σ v (arr.getD i undef)

theorem undefV_re (σ : Ren) : undefV.re σ = undef := by simp [undefV, undef, V.re, V.reL]
theorem undefV_on (σ : Ren) : undefV.on σ := trivial

theorem TRel.set {σ : Ren} {t : Tm} {arr : Array Value} (h : TRel σ t arr) (i : Nat) {v : V} {x : Value} (hv : VRel σ v x) : TRel σ (t.set i v) (arr.setIfInBounds i x) := by
  refine ⟨by simp [Tm.n_set, h.1], fun j u hu => ?_⟩
  by_cases hi : i < t.n
  · rw [Tm.get_set t i j v hi] at hu
    by_cases e : j = i
    · subst e
      simp at hu; subst hu
      simpa [Array.getD_eq_getD_getElem?, Array.getElem?_setIfInBounds, h.1, hi] using hv
    · simp only [if_neg e] at hu
      have := h.2 j u hu
      simpa [Array.getD_eq_getD_getElem?, Array.getElem?_setIfInBounds, Ne.symm e] using this
  · have e1 : t.set i v = t := by simp [Tm.set, blt_false hi]
    rw [e1] at hu
    rw [Array.setIfInBounds_eq_of_size_le (by have := h.1; omega)]
    exact h.2 j u hu
theorem TRel.put {σ : Ren} {t : Tm} {arr : Array Value} (h : TRel σ t arr) (d : Option Tmp) {v : V} {x : Value} (hv : VRel σ v x) (ds : List Deferred) : TRel σ (t.put d v) ((Act.put ⟨arr, ds⟩ d x).tmps) := by
  cases d with
  | none => exact h
  | some i => exact h.set i hv
theorem TRel.le {σ τ : Ren} {t : Tm} {arr : Array Value} (h : TRel σ t arr) (hl : σ.le τ) : TRel τ t arr :=
  ⟨h.1, fun i v hv => (h.2 i v hv).le hl⟩

structure LRel (σ : Ren) (l : Loopv) (l' : Loop) : Prop where
  state : l'.state = l.state
  pending : l'.pending = l.pending
  tmps : TRel σ l.tmps l'.tmps
  params : l'.params = l.params.toArray
  assign : l'.assign = l.assign
  body : l'.body = l.body
  defers : σ.is l.defers ∧ l'.defers = σ.b l.defers

def reE (σ : Ren) (e : V × V × Nat) : MapEntry := { key := e.1.re σ, val := e.2.1.re σ, born := e.2.2 }
def onE (σ : Ren) (e : V × V × Nat) : Prop := e.1.on σ ∧ e.2.1.on σ
theorem reE_le {σ τ : Ren} (hl : σ.le τ) {e : V × V × Nat} (he : onE σ e) : onE τ e ∧ reE τ e = reE σ e :=
  ⟨⟨(V.on_le hl _ he.1).1, (V.on_le hl _ he.2).1⟩, by simp [reE, (V.on_le hl _ he.1).2, (V.on_le hl _ he.2).2]⟩
/-- A block's frozen range holds none of its cells. (The conversion of a string's bytes freezes the place behind the last.) -/
def FzOk (n : Nat) (fz : Nat × Nat) : Prop := fz = (0, 0) ∨ n ≤ fz.1
def BRel (P : Program) (σ : Ren) (l : Loc) (o : O) (o' : Option Obj) : Prop := match o with
  | .cells c elem => ∃ arr : Array Value, (∃ fz, (c.ro = false → FzOk arr.size fz) ∧ o' = some (.cells arr elem fz)) ∧ arr.size = l.sh + c.size + l.slk * P.cellsOf elem ∧ ∀ i, i < c.size → (c.get i).on σ ∧ arr[l.sh + i]? = some ((c.get i).re σ)
  | .map es clock => o' = some (.map (es.map (reE σ)).toArray clock) ∧ ∀ e ∈ es, onE σ e
  | .iter m since seen stepped => l.sh = 0 ∧ (∀ r, m = some r → σ.is r) ∧ o' = some (.mapIter (m.map σ.b) since seen.toArray stepped)
  | .loop lv => ∃ l', o' = some (.loop l') ∧ LRel σ lv l'
  | .deferred op => o' = some (.deferred (if op then some [] else none))
  | .dead => True

theorem BRel.le {P : Program} {σ τ : Ren} (hl : σ.le τ) {l : Loc} {o : O} {o' : Option Obj} (h : BRel P σ l o o') : BRel P τ l o o' := by
  cases o with
  | cells c e =>
    obtain ⟨arr, h1, h2, h3⟩ := h
    exact ⟨arr, h1, h2, fun i hi => ⟨(V.on_le hl _ (h3 i hi).1).1, by rw [(h3 i hi).2, (V.on_le hl _ (h3 i hi).1).2]⟩⟩
  | map es clock =>
    obtain ⟨h1, h3⟩ := h
    refine ⟨?_, fun e he => (reE_le hl (h3 e he)).1⟩
    have : es.map (reE τ) = es.map (reE σ) := List.map_congr_left fun e he => (reE_le hl (h3 e he)).2
    rw [this]; exact h1
  | iter m since seen stepped =>
    obtain ⟨h0, h1, h2⟩ := h
    refine ⟨h0, fun r hr => Ren.is_le hl (h1 r hr), ?_⟩
    cases m with
    | none => exact h2
    | some r => rw [h2]; simp [Ren.b_le hl (h1 r rfl)]
  | loop lv =>
    obtain ⟨l', h1, h2⟩ := h
    exact ⟨l', h1, { h2 with tmps := h2.tmps.le hl, defers := ⟨Ren.is_le hl h2.defers.1, by rw [h2.defers.2, Ren.b_le hl h2.defers.1]⟩ }⟩
  | deferred op => exact h
  | dead => trivial
theorem BRel.some {P : Program} {σ : Ren} {l : Loc} {o : O} {o' : Option Obj} (h : BRel P σ l o o') (hd : o.isDead = false) : ∃ x, o' = some x := by
  cases o with
  | cells c e => obtain ⟨arr, ⟨_, _, h1⟩, _⟩ := h; exact ⟨_, h1⟩
  | map es clock => exact ⟨_, h.1⟩
  | iter m since seen stepped => exact ⟨_, h.2.2⟩
  | loop lv => obtain ⟨l', h1, _⟩ := h; exact ⟨_, h1⟩
  | deferred op => exact ⟨_, h⟩
  | dead => cases hd

/-- Heaps as functions. -/
abbrev HF := Nat → Option O
def liveIn (H : HF) (b : Nat) : Prop := ∃ o, H b = some o ∧ o.isDead = false
structure Inv (P : Program) (H : HF) (σ : Ren) (w : World) : Prop where
  rel : ∀ b o, H b = some o → o.isDead = false → ∃ l, σ b = some l ∧ BRel P σ l o w.heap[l.blk]?
  inj : ∀ a b la lb, liveIn H a → liveIn H b → σ a = some la → σ b = some lb → la.blk = lb.blk → a = b
  fin : ∃ N, ∀ b, N ≤ b → σ b = none ∧ H b = none

theorem Inv.lt {P : Program} {H : HF} {σ : Ren} {w : World} (h : Inv P H σ w) {b : Nat} {l : Loc} (hb : liveIn H b) (hl : σ b = some l) : l.blk < w.heap.size := by
  obtain ⟨o, ho, hd⟩ := hb
  obtain ⟨l', hl', hr⟩ := h.rel b o ho hd
  rw [hl] at hl'; cases hl'
  obtain ⟨x, hx⟩ := hr.some hd
  exact (Array.getElem?_eq_some_iff.1 hx).1
theorem Inv.heap {P : Program} {H : HF} {σ : Ren} {w w' : World} (h : Inv P H σ w) (e : w'.heap = w.heap) : Inv P H σ w' :=
  ⟨fun b o hb hd => by rw [e]; exact h.rel b o hb hd, h.inj, h.fin⟩

/-- What a step does: N are the virtual blocks that it makes, W those that it may write. -/
structure Goes (P : Program) (N W : Nat → Prop) (H H' : HF) (σ σ' : Ren) (w w' : World) : Prop where
  le : σ.le σ'
  dom : ∀ b l, σ' b = some l → σ b = some l ∨ N b
  inv : Inv P H' σ' w'
  virt : ∀ b, ¬ W b → ¬ N b → H' b = H b
  dead : ∀ b, ¬ N b → liveIn H' b → liveIn H b
  fresh : ∀ b l, N b → liveIn H' b → σ' b = some l → w.heap.size ≤ l.blk ∨ ∃ a la, liveIn H a ∧ W a ∧ ¬ N a ∧ σ a = some la ∧ la.blk = l.blk
  real : ∀ k, k < w.heap.size → (∀ b l, liveIn H b → σ b = some l → l.blk = k → ¬ W b) → w'.heap[k]? = w.heap[k]?
  size : w.heap.size ≤ w'.heap.size
  os : w'.os = w.os
  tape : w'.tape = w.tape
  output : w'.output = w.output

theorem Goes.refl {P : Program} {H : HF} {σ : Ren} {w : World} (hi : Inv P H σ w) {N W : Nat → Prop} (hN : ∀ b, ¬ N b) : Goes P N W H H σ σ w w :=
  ⟨Ren.le_refl _, fun _ _ h => .inl h, hi, fun _ _ _ => rfl, fun _ _ h => h, fun b _ h => absurd h (hN b), fun _ _ _ => rfl, Nat.le_refl _, rfl, rfl, rfl⟩

theorem frozen_heap {w w' : World} (e : w'.heap = w.heap) (a : Addr) : w'.frozen? a = w.frozen? a := by simp [World.frozen?, e]
theorem Goes.heap {P : Program} {N W : Nat → Prop} {H H' : HF} {σ σ' : Ren} {w w' w'' : World} (g : Goes P N W H H' σ σ' w w') (e1 : w''.heap = w'.heap) (e2 : w''.os = w'.os) (e3 : w''.tape = w'.tape) (e4 : w''.output = w'.output) : Goes P N W H H' σ σ' w w'' :=
  { g with inv := g.inv.heap e1, real := fun k hk h => by rw [e1]; exact g.real k hk h, size := by rw [e1]; exact g.size, os := e2.trans g.os, tape := e3.trans g.tape, output := e4.trans g.output }

theorem Goes.trans {P : Program} {N₁ W₁ N₂ W₂ N W : Nat → Prop} {H H₁ H₂ : HF} {σ σ₁ σ₂ : Ren} {w w₁ w₂ : World} (g₁ : Goes P N₁ W₁ H H₁ σ σ₁ w w₁) (g₂ : Goes P N₂ W₂ H₁ H₂ σ₁ σ₂ w₁ w₂)
    (hN : ∀ b, N b ↔ N₁ b ∨ N₂ b) (h1 : ∀ b, W₁ b → W b ∨ N b) (h2 : ∀ b, W₂ b → W b ∨ N b) (hNf : ∀ b, N b → ¬ liveIn H b) : Goes P N W H H₂ σ σ₂ w w₂ := by
  have old : ∀ b l, N₁ b → liveIn H₁ b → σ₁ b = some l → w.heap.size ≤ l.blk ∨ ∃ a la, liveIn H a ∧ W a ∧ ¬ N a ∧ σ a = some la ∧ la.blk = l.blk := by
    intro b l hb hl hs
    rcases g₁.fresh b l hb hl hs with h | ⟨a, la, ha, hw, hn, hs', he⟩
    · exact .inl h
    · have hna : ¬ N a := fun h => hNf a h ha
      exact .inr ⟨a, la, ha, (h1 a hw).resolve_right hna, hna, hs', he⟩
  refine ⟨Ren.le_trans g₁.le g₂.le, ?_, g₂.inv, ?_, ?_, ?_, ?_, Nat.le_trans g₁.size g₂.size, g₂.os.trans g₁.os, g₂.tape.trans g₁.tape, g₂.output.trans g₁.output⟩
  · intro b l h
    rcases g₂.dom b l h with h | h
    · exact (g₁.dom b l h).imp id fun h => (hN b).2 (.inl h)
    · exact .inr ((hN b).2 (.inr h))
  · intro b hw hn
    rw [g₂.virt b (fun h => (h2 b h).elim hw hn) (fun h => hn ((hN b).2 (.inr h))), g₁.virt b (fun h => (h1 b h).elim hw hn) (fun h => hn ((hN b).2 (.inl h)))]
  · intro b hn hl
    exact g₁.dead b (fun h => hn ((hN b).2 (.inl h))) (g₂.dead b (fun h => hn ((hN b).2 (.inr h))) hl)
  · intro b l hb hl hs
    by_cases hb2 : N₂ b
    · rcases g₂.fresh b l hb2 hl hs with h | ⟨a, la, ha, hw, hn, hs', he⟩
      · exact .inl (Nat.le_trans g₁.size h)
      · rw [← he]
        by_cases hna : N₁ a
        · exact old a la hna ha hs'
        · have hha := g₁.dead a hna ha
          have hNa : ¬ N a := fun h => hNf a h hha
          rcases g₁.dom a la hs' with hs0 | hs0
          · exact .inr ⟨a, la, hha, (h2 a hw).resolve_right hNa, hNa, hs0, rfl⟩
          · exact absurd hs0 hna
    · have hb1 : N₁ b := ((hN b).1 hb).resolve_right hb2
      have hl1 := g₂.dead b hb2 hl
      rcases g₂.dom b l hs with hs1 | hs1
      · exact old b l hb1 hl1 hs1
      · exact absurd hs1 hb2
  · intro k hk hne
    have hne1 : ∀ b l, liveIn H b → σ b = some l → l.blk = k → ¬ W₁ b := fun b l hb hs he hw => (h1 b hw).elim (hne b l hb hs he) (fun h => hNf b h hb)
    rw [← g₁.real k hk hne1]
    refine g₂.real k (Nat.lt_of_lt_of_le hk g₁.size) fun b l hb hs he hw => ?_
    by_cases hb1 : N₁ b
    · rcases g₁.fresh b l hb1 hb hs with h | ⟨a, la, ha, hwa, hn, hs', he'⟩
      · omega
      · exact hne1 a la ha hs' (he'.trans he) hwa
    · have hb0 := g₁.dead b hb1 hb
      rcases g₁.dom b l hs with hs0 | hs0
      · exact (h2 b hw).elim (hne b l hb0 hs0 he) (fun h => hNf b h hb0)
      · exact absurd hs0 hb1

/-- More may be called written than is. -/
theorem Goes.more {P : Program} {N W W' : Nat → Prop} {H H' : HF} {σ σ' : Ren} {w w' : World} (g : Goes P N W H H' σ σ' w w') (hm : ∀ b, W b → W' b) : Goes P N W' H H' σ σ' w w' :=
  { g with
    virt := fun b hw hn => g.virt b (fun h => hw (hm b h)) hn
    fresh := fun b l hb hl hs => (g.fresh b l hb hl hs).imp id fun ⟨a, la, h1, h2, h3⟩ => ⟨a, la, h1, hm a h2, h3⟩
    real := fun k hk h => g.real k hk fun b l hb hs he hw => h b l hb hs he (hm b hw) }

end Go.Vm
