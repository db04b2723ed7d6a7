/- What is derived of a capability: in plain lists. -/
import Derived.Test.YtehgjkopobkbmaaC3
set_option linter.unusedVariables false
set_option linter.unusedSimpArgs false
set_option linter.unusedSimpArgs false
set_option maxRecDepth 100000
set_option linter.unusedVariables false
set_option linter.unusedSimpArgs false
namespace Go.Proofs.Ytehgjkopobkbmaa
open Go Go.Vm
open Classical
/-- x is derived of a, by whatever many steps. -/
inductive Un (L : List Cp) (a : Int) : Int → Prop
  | kid {c : Cp} : c ∈ L → c.par = a → Un L a c.id
  | step {p : Int} {c : Cp} : Un L a p → c ∈ L → c.par = p → Un L a c.id
theorem Un.mono {L M : List Cp} {a x : Int} (h : Un L a x) (hs : ∀ c ∈ L, c ∈ M) : Un M a x := by
  induction h with
  | kid hc hp => exact .kid (hs _ hc) hp
  | step _ hc hp ih => exact .step ih (hs _ hc) hp
theorem Un.gt {L : List Cp} {a x : Int} (h : Un L a x) (hp : ∀ c ∈ L, c.par < c.id) : a < x := by
  induction h with
  | kid hc e => have := hp _ hc; omega
  | step _ hc e ih => have := hp _ hc; omega
theorem Un.trans {L : List Cp} {a b x : Int} (h1 : Un L a b) (h2 : Un L b x) : Un L a x := by
  induction h2 with
  | kid hc e => exact .step h1 hc e
  | step _ hc e ih => exact .step ih hc e
theorem Un.mem {L : List Cp} {a x : Int} (h : Un L a x) : ∃ c ∈ L, c.id = x := by
  cases h with
  | kid hc _ => exact ⟨_, hc, rfl⟩
  | step _ hc _ => exact ⟨_, hc, rfl⟩
/-- What stays where all that is derived of a goes. -/
noncomputable def gone (L : List Cp) (a : Int) : List Cp := L.filter fun c => decide (¬ Un L a c.id)
/-- What is gone behind so many of a's children. -/
def Gn (L : List Cp) (a : Int) (p : Nat) (x : Int) : Prop := ∃ d ∈ L.take p, d.par = a ∧ (x = d.id ∨ Un L d.id x)
noncomputable def left (L : List Cp) (a : Int) (p : Nat) : List Cp := L.filter fun c => decide (¬ Gn L a p c.id)
theorem left_zero (L : List Cp) (a : Int) : left L a 0 = L := by
  unfold left
  rw [List.filter_eq_self]
  intro c _
  simp [Gn]
theorem Gn.closed {L : List Cp} {a : Int} {p : Nat} {c : Cp} (h : Gn L a p c.par) (hc : c ∈ L) : Gn L a p c.id := by
  obtain ⟨d, hd, h1, h2⟩ := h
  refine ⟨d, hd, h1, .inr ?_⟩
  rcases h2 with h2 | h2
  · exact .kid hc h2
  · exact .step h2 hc rfl
theorem Gn_succ {L : List Cp} {a : Int} {p : Nat} {c : Cp} (h : L[p]? = some c) (x : Int) : Gn L a (p + 1) x ↔ Gn L a p x ∨ c.par = a ∧ (x = c.id ∨ Un L c.id x) := by
  unfold Gn
  rw [take_snoc' h]
  constructor
  · rintro ⟨d, hd, h1⟩
    rcases List.mem_append.1 hd with hd | hd
    · exact .inl ⟨d, hd, h1⟩
    · simp at hd; subst hd; exact .inr h1
  · rintro (⟨d, hd, h1⟩ | h1)
    · exact ⟨d, List.mem_append.2 (.inl hd), h1⟩
    · exact ⟨c, by simp, h1⟩
theorem Gn_end {L : List Cp} {a : Int} (x : Int) : Gn L a L.length x ↔ Un L a x := by
  constructor
  · rintro ⟨d, hd, h1, h2⟩
    have hd := List.mem_of_mem_take hd
    rcases h2 with rfl | h2
    · exact .kid hd h1
    · exact (Un.kid hd h1).trans h2
  · intro h
    induction h with
    | kid hc e => exact ⟨_, by rw [List.take_length]; exact hc, e, .inl rfl⟩
    | step _ hc e ih => subst e; exact ih.closed hc
theorem left_end (L : List Cp) (a : Int) : left L a L.length = gone L a := by
  unfold left gone
  congr 1
  funext c
  simp only [Gn_end]
theorem left_no {L : List Cp} {a : Int} {p : Nat} {c : Cp} (h : L[p]? = some c) (hp : c.par ≠ a) : left L a (p + 1) = left L a p := by
  unfold left
  congr 1
  funext x
  have : Gn L a (p + 1) x.id ↔ Gn L a p x.id := by
    rw [Gn_succ h]
    exact ⟨fun h => h.elim id fun h => absurd h.1 hp, .inl⟩
  simp only [this]
theorem asc_inj {L : List Cp} (ha : L.Pairwise fun a b => a.id < b.id) {c d : Cp} (hc : c ∈ L) (hd : d ∈ L) (h : c.id = d.id) : c = d := by
  have h1 := findC_mem ha hc
  have h2 := findC_mem ha hd
  rw [h, h2] at h1
  exact (Option.some.inj h1).symm
theorem asc_take {L : List Cp} (ha : L.Pairwise fun a b => a.id < b.id) {p : Nat} {c d : Cp} (h : L[p]? = some c) (hd : d ∈ L.take p) : d.id < c.id := by
  have h1 : L = L.take p ++ L.drop p := (List.take_append_drop p L).symm
  rw [h1, List.pairwise_append] at ha
  refine ha.2.2 d hd c ?_
  have hlt := (List.getElem?_eq_some_iff.1 h).1
  rw [List.drop_eq_getElem_cons hlt]
  have := (List.getElem?_eq_some_iff.1 h).2
  rw [this]; simp
theorem kid_left {L : List Cp} {a : Int} {p : Nat} {c : Cp} (ha : L.Pairwise fun a b => a.id < b.id) (hpar : ∀ c ∈ L, c.par < c.id) (h : L[p]? = some c) (hp : c.par = a) : ¬ Gn L a p c.id := by
  rintro ⟨d, hd, h1, h2⟩
  have hdl := List.mem_of_mem_take hd
  have hcl := List.mem_of_getElem? h
  have hdp := hpar d hdl
  rcases h2 with h2 | h2
  · have := asc_take ha h hd; omega
  · generalize hx : c.id = x at h2
    cases h2 with
    | kid hc e =>
      have := asc_inj ha hc hcl hx.symm
      subst this; omega
    | step hu hc e =>
      have := asc_inj ha hc hcl hx.symm
      subst this
      have := hu.gt hpar
      omega
theorem chain_left {L : List Cp} {a k x : Int} {p : Nat} (hpar : ∀ c ∈ L, c.par < c.id) (hu : Un L k x) (hg : ¬ Gn L a p x) : Un ((left L a p).filter fun c => decide (c.id ≠ k)) k x := by
  have mem : ∀ c ∈ L, k < c.id → ¬ Gn L a p c.id → c ∈ (left L a p).filter fun c => decide (c.id ≠ k) := fun c hc hk hn => by
    rw [List.mem_filter]
    exact ⟨by unfold left; rw [List.mem_filter]; exact ⟨hc, decide_eq_true hn⟩, decide_eq_true (by omega)⟩
  induction hu with
  | kid hc e => exact .kid (mem _ hc (by have := hpar _ hc; omega) hg) e
  | step hu hc e ih =>
    subst e
    have hn : ¬ Gn L a p _ := fun h => hg (Gn.closed h hc)
    exact .step (ih hn) (mem _ hc (by have := hu.gt hpar; have := hpar _ hc; omega) hg) rfl
theorem left_yes {L : List Cp} {a : Int} {p : Nat} {c : Cp} (hpar : ∀ c ∈ L, c.par < c.id) (h : L[p]? = some c) (hp : c.par = a) : gone ((left L a p).filter fun d => decide (d.id ≠ c.id)) c.id = left L a (p + 1) := by
  have hM : ∀ d, d ∈ ((left L a p).filter fun d => decide (d.id ≠ c.id)) → d ∈ L := fun d hd => by
    have := (List.mem_filter.1 hd).1
    unfold left at this
    exact (List.mem_filter.1 this).1
  have key : ∀ x : Cp, x ∈ L → ((¬ Gn L a p x.id ∧ x.id ≠ c.id) ∧ ¬ Un ((left L a p).filter fun d => decide (d.id ≠ c.id)) c.id x.id ↔ ¬ Gn L a (p + 1) x.id) := fun x hx => by
    rw [Gn_succ h]
    constructor
    · rintro ⟨⟨h1, h2⟩, h3⟩ (h4 | ⟨_, h4 | h4⟩)
      · exact h1 h4
      · exact h2 h4
      · exact h3 (chain_left hpar h4 h1)
    · intro h4
      refine ⟨⟨fun h5 => h4 (.inl h5), fun h5 => h4 (.inr ⟨hp, .inl h5⟩)⟩, fun h5 => h4 (.inr ⟨hp, .inr (h5.mono hM)⟩)⟩
  have e1 : gone ((left L a p).filter fun d => decide (d.id ≠ c.id)) c.id = L.filter fun x => decide ((¬ Gn L a p x.id ∧ x.id ≠ c.id) ∧ ¬ Un ((left L a p).filter fun d => decide (d.id ≠ c.id)) c.id x.id) := by
    conv => lhs; unfold gone
    conv => lhs; rw [show (left L a p) = L.filter fun c => decide (¬ Gn L a p c.id) from rfl]
    rw [List.filter_filter, List.filter_filter]
    apply List.filter_congr
    intro x hx
    rw [Bool.eq_iff_iff]
    simp only [Bool.and_eq_true, decide_eq_true_eq]
    constructor
    · rintro ⟨⟨h1, h2⟩, h3⟩
      exact ⟨⟨h3, h2⟩, h1⟩
    · rintro ⟨⟨h3, h2⟩, h1⟩
      exact ⟨⟨h1, h2⟩, h3⟩
  rw [e1]
  unfold left
  apply List.filter_congr
  intro x hx
  exact decide_eq_decide.2 (key x hx)
theorem WF.filter {T : CS} (w : WF T) (f : Cp → Bool) : WF ⟨T.L.filter f, T.last⟩ :=
  ⟨w.asc.filter _, fun c hc => w.ids c (List.mem_filter.1 hc).1, w.last, fun c hc => w.par c (List.mem_filter.1 hc).1⟩
theorem findC_filter {L : List Cp} (ha : L.Pairwise fun a b => a.id < b.id) (f : Cp → Bool) (k : Int) : findC (L.filter f) k = match findC L k with | some c => if f c then some c else none | none => none := by
  cases h : findC L k with
  | none =>
    simp only []
    cases h2 : findC (L.filter f) k with
    | none => rfl
    | some c =>
      obtain ⟨hc, hk⟩ := findC_some h2
      exact absurd hk (findC_none h c (List.mem_filter.1 hc).1)
  | some c =>
    obtain ⟨hc, hk⟩ := findC_some h
    simp only []
    by_cases hf : f c
    · rw [if_pos hf, ← hk]
      exact findC_mem (ha.filter _) (List.mem_filter.2 ⟨hc, hf⟩)
    · rw [if_neg hf]
      cases h2 : findC (L.filter f) k with
      | none => rfl
      | some d =>
        obtain ⟨hd, hdk⟩ := findC_some h2
        have := asc_inj ha (List.mem_filter.1 hd).1 hc (by rw [hk, hdk])
        subst this
        exact absurd (List.mem_filter.1 hd).2 hf
theorem mem_left {L : List Cp} {a : Int} {p : Nat} {c : Cp} : c ∈ left L a p ↔ c ∈ L ∧ ¬ Gn L a p c.id := by
  unfold left
  rw [List.mem_filter]
  exact and_congr_right fun _ => decide_eq_true_iff
theorem mem_gone {L : List Cp} {a : Int} {c : Cp} : c ∈ gone L a ↔ c ∈ L ∧ ¬ Un L a c.id := by
  unfold gone
  rw [List.mem_filter]
  exact and_congr_right fun _ => decide_eq_true_iff
theorem find_left {L : List Cp} {a : Int} {p : Nat} {c : Cp} (ha : L.Pairwise fun a b => a.id < b.id) (hc : c ∈ L) (hn : ¬ Gn L a p c.id) : findC (left L a p) c.id = some c := findC_mem (ha.filter _) (mem_left.2 ⟨hc, hn⟩)
theorem find_left_none {L : List Cp} {a : Int} {p : Nat} {c : Cp} (hg : Gn L a p c.id) : findC (left L a p) c.id = none := by
  cases h : findC (left L a p) c.id with
  | none => rfl
  | some d =>
    obtain ⟨hd, hk⟩ := findC_some h
    have := (mem_left.1 hd).2
    rw [hk] at this
    exact absurd hg this
theorem WF.left {T : CS} (w : WF T) (a : Int) (p : Nat) : WF ⟨left T.L a p, T.last⟩ := w.filter _
theorem WF.gone {T : CS} (w : WF T) (a : Int) : WF ⟨gone T.L a, T.last⟩ := w.filter _
theorem left_len (L : List Cp) (a : Int) (p : Nat) : (left L a p).length ≤ L.length := List.length_filter_le _ _
theorem gone_len (L : List Cp) (a : Int) : (gone L a).length ≤ L.length := List.length_filter_le _ _
end Go.Proofs.Ytehgjkopobkbmaa
