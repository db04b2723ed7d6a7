/- Both sides: the document's calls with no word of where things lie; Copy and Same of the program. -/
import Derived.Test.YtmimialblhlklaaRI
import Derived.Test.YtmimialblhlklaaN6
set_option linter.unusedVariables false
set_option maxRecDepth 100000
namespace Go.Proofs.Ytmimialblhlklaa
open Go Go.Vm
variable {g : Heap} {R W M : Set'} {pp rd : Nat} {qs : List Nat} {S : AT}
structure RX (g : Heap) (M : Set') (rd : Nat) (qs : List Nat) (S : AT) : Prop where
  ex : ∃ I bl, RPorts g I rd bl qs S ∧ ∀ k, (I k ∨ ∃ a, a < qs.length ∧ k = bl a) → M k
  lt : ∀ k, M k → k < g.n
def RXQ (g g' : Heap) (M : Set') (rd : Nat) (qs : List Nat) (S : AT) : Prop := g.n ≤ g'.n ∧ (∀ k, k < g.n → ¬ M k → g'.get k = g.get k) ∧ ∃ M', RX g' M' rd qs S ∧ ∀ k, M' k → M k ∨ g.n ≤ k
theorem RPorts.blk_lt {I : Set'} {bl : Nat → Nat} (hr : RPorts g I rd bl qs S) {k : Nat} (hk : I k ∨ ∃ a, a < qs.length ∧ k = bl a) : k < g.n := by
  rcases hk with h1 | ⟨a, ha, rfl⟩
  · obtain ⟨c, e, h2, _⟩ := hr.imm k h1
    exact Heap.lt_of_get h2
  · obtain ⟨c, h2, _⟩ := hr.b a _ (List.getElem?_eq_getElem ha)
    exact Heap.lt_of_get h2
theorem RX.mk' {I : Set'} {bl : Nat → Nat} (hr : RPorts g I rd bl qs S) : RX g (fun k => I k ∨ ∃ a, a < qs.length ∧ k = bl a) rd qs S := ⟨⟨I, bl, hr, fun _ h => h⟩, fun _ h => hr.blk_lt h⟩
theorem RX.same {g' : Heap} (hx : RX g M rd qs S) (hn : g.n ≤ g'.n) (hk : ∀ k, M k → g'.get k = g.get k) : RX g' M rd qs S := by
  obtain ⟨⟨I, bl, hr, hm⟩, hl⟩ := hx
  exact ⟨⟨I, bl, hr.same fun k h => hk k (hm k h), hm⟩, fun k h => Nat.lt_of_lt_of_le (hl k h) hn⟩
theorem RX.old {g' : Heap} (hx : RX g M rd qs S) (hn : g.n ≤ g'.n) (hk : ∀ k, k < g.n → g'.get k = g.get k) : RX g' M rd qs S := hx.same hn fun k h => hk k (hx.lt k h)
theorem RXQ.of {g' : Heap} {I I' : Set'} {bl : Nat → Nat} {S' : AT} (hM : ∀ k, (I k ∨ ∃ a, a < qs.length ∧ k = bl a) → M k) (hn : g.n ≤ g'.n) (hk : ∀ k, k < g.n → (∀ a, a < qs.length → k ≠ bl a) → g'.get k = g.get k) (hr' : RPorts g' I' rd bl qs S') (hI : ∀ k, I' k → I k ∨ g.n ≤ k) : RXQ g g' M rd qs S' :=
  ⟨hn, fun k h1 h2 => hk k h1 fun a ha e => h2 (hM k (.inr ⟨a, ha, e⟩)), _, RX.mk' hr', fun k h => h.elim (fun h => (hI k h).imp (fun h => hM k (.inl h)) id) fun h => .inl (hM k (.inr h))⟩
theorem copy_px (hx : PX g M pp qs S) (hR : ∀ b, R b) : SF ⟨Try.prog, true⟩ 25 [.ptr (some (pp, 0))] g R W fun r g' => g.n ≤ g'.n ∧ (∀ k, k < g.n → g'.get k = g.get k) ∧ ∃ pp' M', r = .ptr (some (pp', 0)) ∧ PX g' M' pp' qs S ∧ ∀ k, M' k → (M k ∧ ¬ Mty g k) ∨ g.n ≤ k := by
  obtain ⟨⟨I, mp, T, hp, rfl, hm⟩, hF, hl⟩ := hx
  refine (copy25 hp hR).mono ?_
  rintro r g' ⟨rfl, h1, h2, T2, h3, h4, h5⟩
  refine ⟨by omega, h2, _, _, rfl, by rw [← h4] at hF ⊢; exact PX.mk' h3 hF, fun k hk => ?_⟩
  rcases hk with hk | hk | hk
  · exact .inr (h5 k hk)
  · exact .inl ⟨hm k (.inr hk), hp.nI hk⟩
  · exact .inr (by omega)
theorem same_px {pp' : Nat} {M' : Set'} {qs' : List Nat} {S' : AT} (hx : PX g M pp qs S) (hx' : PX g M' pp' qs' S') (hR : ∀ b, R b) : SF ⟨Try.prog, true⟩ 21 [.ptr (some (pp, 0)), .ptr (some (pp', 0))] g R W fun r g' => (∃ b, r = .bool b ∧ (b = true ↔ SameA qs qs' S S')) ∧ g.n ≤ g'.n ∧ ∀ k, k < g.n → g'.get k = g.get k := by
  obtain ⟨⟨I, mp, T, hp, rfl, hm⟩, hF, hl⟩ := hx
  obtain ⟨⟨I', mp', T', hp', rfl, hm'⟩, hF', hl'⟩ := hx'
  exact same21 hp hp' hF.of hF'.of hR
structure Both (hb g : Heap) (pp : Nat) (M : Set') (rd : Nat) (MD : Set') (qs : List Nat) (S SD : AT) : Prop where
  p : PX g M pp qs S
  d : RX g MD rd qs SD
  mp : ∀ k, M k → hb.n ≤ k
  md : ∀ k, MD k → hb.n ≤ k
  dis : ∀ k, M k → ¬ MD k
  n : hb.n ≤ g.n
  old : ∀ k, k < hb.n → g.get k = hb.get k
structure BothQ (hb g0 g : Heap) (M0 MD0 : Set') (pp : Nat) (M : Set') (rd : Nat) (MD : Set') (qs : List Nat) (S SD : AT) : Prop where
  t : Both hb g pp M rd MD qs S SD
  m : ∀ k, M k → M0 k ∨ g0.n ≤ k
  md : ∀ k, MD k → MD0 k ∨ g0.n ≤ k
  hb0 : hb.n ≤ g0.n
  n : g0.n ≤ g.n
  k : ∀ k, k < g0.n → ¬ (M0 k ∨ MD0 k) → g.get k = g0.get k
variable {hb g0 g' : Heap} {M0 MD0 MD : Set'} {SD S2 : AT}
theorem Both.q (t : Both hb g pp M rd MD qs S SD) : BothQ hb g g M MD pp M rd MD qs S SD := ⟨t, fun _ h => .inl h, fun _ h => .inl h, t.n, Nat.le_refl _, fun _ _ _ => rfl⟩
theorem BothQ.same (q : BothQ hb g0 g M0 MD0 pp M rd MD qs S SD) (hn : g.n ≤ g'.n) (hk : ∀ k, k < g.n → (k < g0.n ∨ M k ∨ MD k) → g'.get k = g.get k) : BothQ hb g0 g' M0 MD0 pp M rd MD qs S SD := by
  obtain ⟨⟨p, d, mp, md, dis, n, old⟩, qm, qmd, qb, qn, qk⟩ := q
  exact ⟨⟨p.same hn fun k h => hk k (p.lt k h) (.inr (.inl h)), d.same hn fun k h => hk k (d.lt k h) (.inr (.inr h)), mp, md, dis, Nat.le_trans n hn, fun k h => by rw [hk k (by omega) (.inl (by omega))]; exact old k h⟩, qm, qmd, qb, Nat.le_trans qn hn, fun k h1 h2 => by rw [hk k (by omega) (.inl h1)]; exact qk k h1 h2⟩
theorem BothQ.push (q : BothQ hb g0 g M0 MD0 pp M rd MD qs S SD) (hn : g.n ≤ g'.n) (hk : ∀ k, k < g.n → g'.get k = g.get k) : BothQ hb g0 g' M0 MD0 pp M rd MD qs S SD := q.same hn fun k h _ => hk k h
theorem BothQ.prog (q : BothQ hb g0 g M0 MD0 pp M rd MD qs S SD) (hq : PXQ g g' M pp qs S2) : ∃ M', BothQ hb g0 g' M0 MD0 pp M' rd MD qs S2 SD ∧ ∀ k, M' k → M k ∨ g.n ≤ k := by
  obtain ⟨⟨p, d, mp, md, dis, n, old⟩, qm, qmd, qb, qn, qk⟩ := q
  obtain ⟨hc, M', hx, hm⟩ := hq
  have hcn := hc.n
  have hkk : ∀ k, k < g.n → ¬ M k → g'.get k = g.get k := fun k h1 h2 => hc.k k h1 fun h => h2 h.1
  refine ⟨M', ⟨⟨hx, d.same hcn fun k h => hkk k (d.lt k h) fun h2 => dis k h2 h, fun k h => (hm k h).elim (mp k) fun h => by omega, md, fun k h h2 => (hm k h).elim (fun h3 => dis k h3 h2) fun h3 => by have := d.lt k h2; omega, by omega, fun k h => ?_⟩, fun k h => (hm k h).elim (qm k) fun h => .inr (by omega), qmd, qb, by omega, fun k h1 h2 => ?_⟩, hm⟩
  · rw [hkk k (by omega) fun h2 => by have := mp k h2; omega]; exact old k h
  · rw [hkk k (by omega) fun h3 => (qm k h3).elim (fun h => h2 (.inl h)) fun h => by omega]; exact qk k h1 h2
theorem BothQ.at' {vf vp : V} {L : List Te} {l : List V} (q : BothQ hb g0 g M0 MD0 pp M rd MD qs S SD) (hs : StepIs hb vf vp L l) : TestsV g (fun k => k < hb.n) vf L ∧ LR g (fun k => k < hb.n) vp l ∧ Byt l := ⟨LRs.old hs.1 q.t.old, hs.2.1.old q.t.old, hs.2.2⟩
end Go.Proofs.Ytmimialblhlklaa
