/- A call that writes nothing, and whose answer does not hang on what iterators choose: one answer, its new blocks numbered at will. -/
import Derived.Test.YtmkdbninmimndaaVmS
set_option linter.unusedVariables false
set_option linter.unusedSimpArgs false
namespace Go.Vm
variable {P : Program}

/-! ### values with other block numbers -/
mutual
def V.rn (π : Nat → Nat) : V → V
  | .ptr (some a) => .ptr (some (π a.1, a.2))
  | .slice (some a) n c ex => .slice (some (π a.1, a.2)) n c ex
  | .map (some r) => .map (some (π r))
  | .func f xs ys => .func f (V.rnL π xs) (V.rnL π ys)
  | .yield l => .yield (π l)
  | .iface t v => .iface t (V.rn π v)
  | .agg c => .agg (V.rnL π c)
  | .tuple vs => .tuple (V.rnL π vs)
  | v => v
def V.rnL (π : Nat → Nat) : List V → List V
  | [] => []
  | v :: r => V.rn π v :: V.rnL π r
end
mutual
def V.names (S : Nat → Prop) : V → Prop
  | .ptr (some a) => S a.1
  | .slice (some a) _ _ _ => S a.1
  | .map (some r) => S r
  | .func _ xs ys => V.namesL S xs ∧ V.namesL S ys
  | .yield l => S l
  | .iface _ v => V.names S v
  | .agg c => V.namesL S c
  | .tuple vs => V.namesL S vs
  | _ => True
def V.namesL (S : Nat → Prop) : List V → Prop
  | [] => True
  | v :: r => V.names S v ∧ V.namesL S r
end
mutual
theorem V.rn_re {σ τ : Ren} {π : Nat → Nat} {S : Nat → Prop} (h : ∀ b, S b → σ (π b) = τ b) : ∀ (v : V), V.names S v → (V.rn π v).re σ = v.re τ ∧ ((V.rn π v).on σ ↔ v.on τ)
  | .ptr (some a), hv => by have := h a.1 hv; simp [V.rn, V.re, reA, Ren.b, Ren.s, V.on, Ren.is, this]
  | .slice (some a) _ _ ex, hv => by have := h a.1 hv; simp [V.rn, V.re, reA, Ren.b, Ren.s, Ren.k, V.on, Ren.is, this]
  | .map (some r), hv => by have := h r hv; simp [V.rn, V.re, Ren.b, V.on, Ren.is, this]
  | .func _ xs ys, hv => by
    have h1 := V.rnL_re h xs hv.1
    have h2 := V.rnL_re h ys hv.2
    exact ⟨by simp [V.rn, V.re, h1.1, h2.1], by simp [V.rn, V.on, h1.2, h2.2]⟩
  | .yield l, hv => by have := h l hv; simp [V.rn, V.re, Ren.b, V.on, Ren.is, this]
  | .iface _ v, hv => by have h1 := V.rn_re h v hv; exact ⟨by simp [V.rn, V.re, h1.1], by simp [V.rn, V.on, h1.2]⟩
  | .agg c, hv => by have h1 := V.rnL_re h c hv; exact ⟨by simp [V.rn, V.re, h1.1], by simp [V.rn, V.on, h1.2]⟩
  | .tuple vs, hv => by have h1 := V.rnL_re h vs hv; exact ⟨by simp [V.rn, V.re, h1.1], by simp [V.rn, V.on, h1.2]⟩
  | .bool _, _ => ⟨rfl, Iff.rfl⟩
  | .int _ _, _ => ⟨rfl, Iff.rfl⟩
  | .str _, _ => ⟨rfl, Iff.rfl⟩
  | .ptr none, _ => ⟨rfl, Iff.rfl⟩
  | .slice none _ _ _, _ => ⟨rfl, Iff.rfl⟩
  | .map none, _ => ⟨rfl, Iff.rfl⟩
  | .nilFunc, _ => ⟨rfl, Iff.rfl⟩
  | .nilIface, _ => ⟨rfl, Iff.rfl⟩
  | .raw _, _ => ⟨rfl, Iff.rfl⟩
  | .esl _, _ => ⟨rfl, Iff.rfl⟩
theorem V.rnL_re {σ τ : Ren} {π : Nat → Nat} {S : Nat → Prop} (h : ∀ b, S b → σ (π b) = τ b) : ∀ (l : List V), V.namesL S l → V.reL σ (V.rnL π l) = V.reL τ l ∧ (V.onL σ (V.rnL π l) ↔ V.onL τ l)
  | [], _ => ⟨rfl, Iff.rfl⟩
  | v :: r, hv => by
    have h1 := V.rn_re h v hv.1
    have h2 := V.rnL_re h r hv.2
    exact ⟨by simp [V.rnL, V.reL, h1.1, h2.1], by simp [V.rnL, V.onL, h1.2, h2.2]⟩
end
mutual
theorem V.rn_id : ∀ (v : V), V.rn id v = v
  | .ptr (some a) => rfl
  | .slice (some a) _ _ _ => rfl
  | .map (some r) => rfl
  | .func _ xs ys => by simp [V.rn, V.rnL_id xs, V.rnL_id ys]
  | .yield l => rfl
  | .iface _ v => by simp [V.rn, V.rn_id v]
  | .agg c => by simp [V.rn, V.rnL_id c]
  | .tuple vs => by simp [V.rn, V.rnL_id vs]
  | .bool _ => rfl
  | .int _ _ => rfl
  | .str _ => rfl
  | .ptr none => rfl
  | .slice none _ _ _ => rfl
  | .map none => rfl
  | .nilFunc => rfl
  | .nilIface => rfl
  | .raw _ => rfl
  | .esl _ => rfl
theorem V.rnL_id : ∀ (l : List V), V.rnL id l = l
  | [] => rfl
  | v :: r => by simp [V.rnL, V.rn_id v, V.rnL_id r]
end
/-- A new block that is the like of another one, the block numbers apart: cells alone. -/
def OMap (π : Nat → Nat) (S : Nat → Prop) (o o' : O) : Prop := match o, o' with
  | .cells c e, .cells c' e' => e = e' ∧ c.ro = c'.ro ∧ c.size = c'.size ∧ ∀ i, i < c.size → V.names S (c.get i) ∧ c'.get i = (c.get i).rn π
  | .dead, _ => True
  | _, _ => False
theorem OMap.brel {π : Nat → Nat} {S : Nat → Prop} {σ τ : Ren} (h : ∀ b, S b → σ (π b) = τ b) {o o' : O} (ho : OMap π S o o') (hd : o.isDead = false) {l : Loc} {x : Option Obj} (hb : BRel P σ l o' x) : BRel P τ l o x := by
  cases o with
  | cells c e =>
    cases o' with
    | cells c' e' =>
      obtain ⟨rfl, hro, hs, hc⟩ := ho
      obtain ⟨arr, h1, h2, h3⟩ := hb
      refine ⟨arr, by rw [hro]; exact h1, by rw [hs]; exact h2, fun i hi => ?_⟩
      obtain ⟨hn, he⟩ := hc i hi
      have := h3 i (by rw [← hs]; exact hi)
      rw [he] at this
      have hm := V.rn_re h _ hn
      exact ⟨hm.2.1 this.1, by rw [this.2, hm.1]⟩
    | _ => exact ho.elim
  | dead => cases hd
  | _ => cases o' <;> exact ho.elim

theorem FnOk.of_dem {f : FuncId} {args : List V} {h h0 : Heap} {v0 : V} {R : Set'} {Q : Heap → V → Heap → Prop} (hn : h.n ≤ h0.n) (h0g : ∀ b, b < h.n → h0.get b = h.get b) (hR : ∀ b, R b → b < h.n)
    (hf : ∀ g : Heap, h0.n ≤ g.n → (∀ b, b < h.n → g.get b = h.get b) → FnD P f args g R (fun _ => False) (Q g))
    (hq : ∀ g v h', h0.n ≤ g.n → Q g v h' → ∃ π : Nat → Nat, (∀ b, b < h.n → π b = b) ∧ (∀ b, h.n ≤ b → b < h0.n → g.n ≤ π b) ∧ (∀ b c, h.n ≤ b → b < h0.n → h.n ≤ c → c < h0.n → π b = π c → b = c) ∧
      V.names (· < h0.n) v0 ∧ v0.rn π = v ∧ ∀ b o, h.n ≤ b → b < h0.n → h0.get b = some o → o.isDead = false → π b < h'.n ∧ ∃ o', h'.get (π b) = some o' ∧ o'.isDead = false ∧ OMap π (· < h0.n) o o') :
    FnOk P f args h v0 h0 R (fun _ => False) := by
  refine ⟨⟨hn, fun b hb _ => h0g b hb⟩, fun H σ w p hon => ?_⟩
  obtain ⟨N, hN⟩ := p.inv.fin
  -- the same heap, its end beyond all that is named
  let g : Heap := ⟨max (max h0.n N) h.n, h.tr⟩
  have hgn : h0.n ≤ g.n := by show h0.n ≤ max (max h0.n N) h.n; omega
  have hgN : N ≤ g.n := by show N ≤ max (max h0.n N) h.n; omega
  have hgg : ∀ b, b < h.n → g.get b = h.get b := by
    intro b hb
    have hbg : b < g.n := by show b < max (max h0.n N) h.n; omega
    unfold Heap.get
    rw [blt_true hbg, blt_true hb]
  have pu : PreU P g R (fun _ => False) H σ w := by
    refine ⟨fun b hb hr => ?_, fun b hb => hN b (Nat.le_trans hgN hb), p.inv⟩
    have hr := hr.resolve_right (fun h => h)
    have hlt := hR b hr
    rw [p.agree b hlt (.inl hr), hgg b hlt]
  refine CallsIn.mono (hf g hgn hgg H σ w pu hon) ?_
  rintro e w' ⟨x, σ', H', v, h', hQ, vf, rfl, hx, hs⟩
  obtain ⟨π, hold, hnew, hinj, hnames, hv, hob⟩ := hq g v h' hgn hQ
  -- the renaming
  let τ : Ren := fun b => if h.n ≤ b ∧ b < h0.n then σ' (π b) else σ b
  have hfr : ∀ b, h.n ≤ b → b < h0.n → σ b = none ∧ H b = none := fun b h1 h2 => p.fresh b ⟨h1, h2⟩
  have hσ'old : ∀ b, b < g.n → σ' b = σ b := by
    intro b hb
    cases hq : σ b with
    | some l => exact hs.goes.le b l hq
    | none =>
      cases hq' : σ' b with
      | none => rfl
      | some l =>
        rcases hs.goes.dom b l hq' with h1 | h1
        · rw [hq] at h1; cases h1
        · have := h1.1; omega
  have key : ∀ b, b < h0.n → σ' (π b) = τ b := by
    intro b hb
    show σ' (π b) = if h.n ≤ b ∧ b < h0.n then σ' (π b) else σ b
    by_cases h1 : h.n ≤ b
    · rw [if_pos ⟨h1, hb⟩]
    · rw [if_neg (fun hh => h1 hh.1), hold b (by omega), hσ'old b (by omega)]
  have hle : σ.le τ := by
    intro b l hb
    show (if h.n ≤ b ∧ b < h0.n then σ' (π b) else σ b) = some l
    by_cases h1 : h.n ≤ b ∧ b < h0.n
    · rw [(hfr b h1.1 h1.2).1] at hb; cases hb
    · rw [if_neg h1]; exact hb
  let K : HF := fun b => if h.n ≤ b ∧ b < h0.n then h0.get b else H b
  have hKnew : ∀ b, h.n ≤ b → b < h0.n → K b = h0.get b := fun b h1 h2 => if_pos ⟨h1, h2⟩
  have hKold : ∀ b, ¬ (h.n ≤ b ∧ b < h0.n) → K b = H b := fun b h1 => if_neg h1
  have hτnew : ∀ b, h.n ≤ b → b < h0.n → τ b = σ' (π b) := fun b h1 h2 => if_pos ⟨h1, h2⟩
  have hτold : ∀ b, ¬ (h.n ≤ b ∧ b < h0.n) → τ b = σ b := fun b h1 => if_neg h1
  have hreal : ∀ k, k < w.heap.size → w'.heap[k]? = w.heap[k]? := fun k hk => hs.goes.real k hk fun b l _ _ _ hw => hw.2
  have newlive : ∀ b o, h.n ≤ b → b < h0.n → h0.get b = some o → o.isDead = false → ∃ o' l, H' (π b) = some o' ∧ o'.isDead = false ∧ σ' (π b) = some l ∧ BRel P τ l o w'.heap[l.blk]? ∧ w.heap.size ≤ l.blk ∧ New g h' (π b) := by
    intro b o h1 h2 hbo hd
    obtain ⟨hlt, o', ho', hd', hm⟩ := hob b o h1 h2 hbo hd
    have hNew : New g h' (π b) := ⟨hnew b h1 h2, hlt⟩
    have hH' : H' (π b) = some o' := by rw [hs.get (π b) (.inl hNew), ho']
    obtain ⟨l, hl, hbr⟩ := hs.goes.inv.rel (π b) o' hH' hd'
    refine ⟨o', l, hH', hd', hl, hm.brel key hd hbr, ?_, hNew⟩
    rcases hs.goes.fresh (π b) l hNew ⟨o', hH', hd'⟩ hl with h3 | ⟨a, la, _, hw, _⟩
    · exact h3
    · exact hw.2.elim
  have oldlive : ∀ b o, H b = some o → o.isDead = false → ∃ l, σ b = some l ∧ l.blk < w.heap.size ∧ BRel P τ l o w'.heap[l.blk]? := by
    intro b o hb hd
    obtain ⟨l, hl, hbr⟩ := p.inv.rel b o hb hd
    have hlt := p.inv.lt ⟨o, hb, hd⟩ hl
    exact ⟨l, hl, hlt, by rw [hreal _ hlt]; exact hbr.le hle⟩
  refine ⟨x, τ, K, rfl, ?_, ⟨⟨hle, ?_, ⟨?_, ?_, ?_⟩, ?_, ?_, ?_, fun k hk _ => hreal k hk, hs.goes.size, hs.goes.os, hs.goes.tape, hs.goes.output⟩, ?_⟩⟩
  · have hm := V.rn_re key v0 hnames
    rw [hv] at hm
    exact ⟨hm.2.1 hx.1, by rw [hx.2, hm.1]⟩
  · intro b l hb
    by_cases h1 : h.n ≤ b ∧ b < h0.n
    · exact .inr h1
    · rw [hτold b h1] at hb; exact .inl hb
  · intro b o hb hd
    by_cases h1 : h.n ≤ b ∧ b < h0.n
    · rw [hKnew b h1.1 h1.2] at hb
      obtain ⟨o', l, _, _, hl, hbr, _, _⟩ := newlive b o h1.1 h1.2 hb hd
      exact ⟨l, by rw [hτnew b h1.1 h1.2]; exact hl, hbr⟩
    · rw [hKold b h1] at hb
      obtain ⟨l, hl, _, hbr⟩ := oldlive b o hb hd
      exact ⟨l, by rw [hτold b h1]; exact hl, hbr⟩
  · rintro a b la lb ⟨oa, ha, hda⟩ ⟨ob, hb, hdb⟩ hsa hsb he
    by_cases h1 : h.n ≤ a ∧ a < h0.n
    · rw [hKnew a h1.1 h1.2] at ha
      obtain ⟨oa', la', hHa, hda', hla, _, hsz, _⟩ := newlive a oa h1.1 h1.2 ha hda
      rw [hτnew a h1.1 h1.2, hla] at hsa; cases hsa
      by_cases h2 : h.n ≤ b ∧ b < h0.n
      · rw [hKnew b h2.1 h2.2] at hb
        obtain ⟨ob', lb', hHb, hdb', hlb, _, _, _⟩ := newlive b ob h2.1 h2.2 hb hdb
        rw [hτnew b h2.1 h2.2, hlb] at hsb; cases hsb
        exact hinj a b h1.1 h1.2 h2.1 h2.2 (hs.goes.inv.inj (π a) (π b) _ _ ⟨oa', hHa, hda'⟩ ⟨ob', hHb, hdb'⟩ hla hlb he)
      · rw [hKold b h2] at hb
        obtain ⟨lb', hlb, hlt, _⟩ := oldlive b ob hb hdb
        rw [hτold b h2, hlb] at hsb; cases hsb
        omega
    · rw [hKold a h1] at ha
      obtain ⟨la', hla, hlt, _⟩ := oldlive a oa ha hda
      rw [hτold a h1, hla] at hsa; cases hsa
      by_cases h2 : h.n ≤ b ∧ b < h0.n
      · rw [hKnew b h2.1 h2.2] at hb
        obtain ⟨ob', lb', hHb, hdb', hlb, _, hsz, _⟩ := newlive b ob h2.1 h2.2 hb hdb
        rw [hτnew b h2.1 h2.2, hlb] at hsb; cases hsb
        omega
      · rw [hKold b h2] at hb
        obtain ⟨lb', hlb, _, _⟩ := oldlive b ob hb hdb
        rw [hτold b h2, hlb] at hsb; cases hsb
        exact p.inv.inj a b _ _ ⟨oa, ha, hda⟩ ⟨ob, hb, hdb⟩ hla hlb he
  · refine ⟨max N h0.n, fun b hb => ?_⟩
    have hne : ¬ (h.n ≤ b ∧ b < h0.n) := fun hh => by have := hh.2; omega
    rw [hτold b hne, hKold b hne]
    exact hN b (by omega)
  · intro b _ hnb; exact hKold b hnb
  · rintro b hnb ⟨o, hb, hd⟩
    rw [hKold b hnb] at hb
    exact ⟨o, hb, hd⟩
  · rintro b l hnb ⟨o, hb, hd⟩ hl
    rw [hKnew b hnb.1 hnb.2] at hb
    obtain ⟨o', l', _, _, hl', _, hsz, _⟩ := newlive b o hnb.1 hnb.2 hb hd
    rw [hτnew b hnb.1 hnb.2, hl'] at hl; cases hl
    exact .inl hsz
  · rintro b (hb | hb)
    · exact hKnew b hb.1 hb.2
    · exact hb.2.elim

/-- No new block is left. -/
theorem SF.of_dem_val {f : FuncId} {args : List V} {h : Heap} {v0 : V} {R : Set'} (hR : ∀ b, R b → b < h.n) (hv0 : V.names (· < h.n) v0)
    (hf : ∀ g : Heap, h.n ≤ g.n → (∀ b, b < h.n → g.get b = h.get b) → SF ⟨P, true⟩ f args g R (fun _ => False) fun v _ => v = v0) : SF (P : MP) f args h R (fun _ => False) fun v h' => v = v0 ∧ h' = h :=
  ⟨v0, h, ⟨rfl, rfl⟩, FnOk.of_dem (Q := fun _ v _ => v = v0) (Nat.le_refl _) (fun _ _ => rfl) hR hf fun g v h' _ hv => by
    subst hv
    exact ⟨id, fun _ _ => rfl, fun b h1 h2 => by omega, fun b c h1 h2 => by omega, hv0, V.rn_id v, fun b o h1 h2 => by omega⟩⟩
end Go.Vm
