/- The document's ports in memory; New of it. -/
import Derived.Test.YtmimialblhlklaaF9
set_option linter.unusedVariables false
set_option maxRecDepth 100000
namespace Go.Proofs.Ytmimialblhlklaa
open Go Go.Vm
variable {h : Heap} {R W I : Set'}
def leCap : V → Prop
  | .slice _ n c _ => n ≤ c
  | _ => True
def RingV (g : Heap) (I : Set') (v : V) (r : List (List V)) : Prop := (r = [] ∧ ∃ a l, v = .eop a l) ∨ ∃ sl : List V, LR g I v sl ∧ leCap v ∧ sl.length = r.length ∧ ∀ i v, sl[i]? = some v → LR g I v (r.getD i [])
theorem RingV.same {g g' : Heap} {I : Set'} {v : V} {r : List (List V)} (hv : RingV g I v r) (hk : ∀ k, I k → g'.get k = g.get k) : RingV g' I v r := by
  rcases hv with h | ⟨sl, h3, h0, h4, h5⟩
  · exact .inl h
  · exact .inr ⟨sl, h3.same fun k h _ => hk k h, h0, h4, fun i v e => (h5 i v e).same fun k h _ => hk k h⟩
theorem RingV.mono {g : Heap} {I I' : Set'} {v : V} {r : List (List V)} (hv : RingV g I v r) (hk : ∀ k, I k → I' k) : RingV g I' v r := by
  rcases hv with h | ⟨sl, h3, h0, h4, h5⟩
  · exact .inl h
  · exact .inr ⟨sl, h3.mono fun k _ h => hk k h, h0, h4, fun i v e => (h5 i v e).mono fun k _ h => hk k h⟩
theorem RingV.one {g : Heap} {I : Set'} {v : V} {r : List (List V)} (hv : RingV g I v r) : v.one = true := by
  rcases hv with ⟨_, a, l, rfl⟩ | ⟨sl, h3, _⟩
  · rfl
  · exact h3.one
theorem RingV.lenV {g : Heap} {I : Set'} {v : V} {r : List (List V)} (hv : RingV g I v r) (g' : Heap) : Go.Vm.lenV Try.prog 23 v g' = some (r.length, []) := by
  rcases hv with ⟨rfl, a, l, rfl⟩ | ⟨sl, h1, h0, h2, h3⟩
  · simp only [Go.Vm.lenV, Try.underlying23]; rfl
  · rw [← h2]; exact h1.lenV Try.underlying23 g'
theorem RingV.at' {g : Heap} {I : Set'} {v : V} {r : List (List V)} (hv : RingV g I v r) {i : Nat} (hi : i < r.length) : ∃ b o cap ex c ce w, v = .slice (some (b, o)) r.length cap ex ∧ r.length ≤ cap ∧ I b ∧ g.get b = some (.cells c ce) ∧ o + r.length ≤ c.size ∧ c.get (o + i) = w ∧ LR g I w r[i] := by
  rcases hv with ⟨rfl, _⟩ | ⟨sl, h1, h0, h2, h3⟩
  · simp at hi
  · obtain ⟨b, o, cap, ex, c, ce, e, hI, hb, hs, hg⟩ := h1.get (i := i) (by omega)
    have hsi : i < sl.length := by omega
    have hw := h3 i sl[i] (List.getElem?_eq_getElem hsi)
    rw [List.getD_eq_getElem?_getD, List.getElem?_eq_getElem hi, Option.getD_some] at hw
    rw [h2] at e hs
    refine ⟨b, o, cap, ex, c, ce, sl[i], e, by subst e; exact h0, hI, hb, hs, ?_, hw⟩
    rw [hg, List.getD_eq_getElem?_getD, List.getElem?_eq_getElem hsi]; rfl
def PortC (g : Heap) (I : Set') (c : Blk) (o : Nat) : Option Pt → Prop
  | none => c.get o = .bool false ∧ c.get (o + 1) = .slice none 0 0 true ∧ c.get (o + 2) = .slice none 0 0 true ∧ c.get (o + 3) = .int .i64 0
  | some x => c.get o = .bool true ∧ TestsV g I (c.get (o + 1)) x.ts ∧ RingV g I (c.get (o + 2)) x.ring ∧ c.get (o + 3) = .int .i64 x.lost
def slV (bl : Nat → Nat) (qs : List Nat) : List V := (List.range qs.length).map fun a => .slice (some (bl a, 0)) (qs.getD a 0) (qs.getD a 0) true
theorem slV_len (bl : Nat → Nat) (qs : List Nat) : (slV bl qs).length = qs.length := by simp [slV]
theorem slV_get (bl : Nat → Nat) (qs : List Nat) {a q : Nat} (e : qs[a]? = some q) : (slV bl qs)[a]? = some (.slice (some (bl a, 0)) q q true) := by
  have ha := (List.getElem?_eq_some_iff.1 e).1
  unfold slV
  rw [List.getElem?_map, List.getElem?_range ha]
  simp only [Option.map_some, List.getD_eq_getElem?_getD, e, Option.getD_some]
structure RPorts (g : Heap) (I : Set') (rd : Nat) (bl : Nat → Nat) (qs : List Nat) (S : AT) : Prop where
  c : ∃ c, g.get rd = some (.cells c 106) ∧ c.size = 1 ∧ LR g I (c.get 0) (slV bl qs)
  ir : I rd
  b : ∀ a q, qs[a]? = some q → ∃ c, g.get (bl a) = some (.cells c 109) ∧ c.size = q * 4 ∧ c.ro = false ∧ ∀ n, n < q → PortC g I c (n * 4) (S a n)
  dom : ∀ a n x, S a n = some x → ∃ q, qs[a]? = some q ∧ n < q
  inj : ∀ a a', a < qs.length → a' < qs.length → bl a = bl a' → a = a'
  imm : ∀ k, I k → ∃ c e, g.get k = some (.cells c e) ∧ e ≠ 109 ∧ e ≠ 82
  qs : 0 < qs.length ∧ qs.length ≤ 8 ∧ ∀ q ∈ qs, q ≤ 16
end Go.Proofs.Ytmimialblhlklaa
