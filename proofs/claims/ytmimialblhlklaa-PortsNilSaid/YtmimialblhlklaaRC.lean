/- The document's ports: what Come does, round by round. -/
import Derived.Test.YtmimialblhlklaaN3
set_option linter.unusedVariables false
set_option maxRecDepth 100000
namespace Go.Proofs.Ytmimialblhlklaa
open Go Go.Vm
variable {h : Heap} {R W I : Set'} {rd : Nat} {bl : Nat → Nat} {qs : List Nat} {S : AT}
theorem flatMap_le {f : Nat → List (Nat × Bool)} (hf : ∀ n, (f n).length ≤ 1) : ∀ P : List Nat, (P.flatMap f).length ≤ P.length
  | [] => by simp
  | p :: P => by
    rw [List.flatMap_cons, List.length_append, List.length_cons]
    have := hf p
    have := flatMap_le hf P
    omega
theorem comeP_le2 (S : AT) (i : Nat) (l : List V) (P : List Nat) : (comeP S i l P).length ≤ P.length := by
  unfold comeP
  refine flatMap_le (fun n => ?_) P
  split
  · split <;> simp
  · simp
structure RC (h : Heap) (I : Set') (rd : Nat) (bl : Nat → Nat) (qs : List Nat) (S : AT) (w : V) (L : List (Nat × Bool)) (g : Heap) : Prop where
  n : h.n ≤ g.n
  k : ∀ k, k < h.n → (∀ a, a < qs.length → k ≠ bl a) → g.get k = h.get k
  r : ∃ I', RPorts g I' rd bl qs S ∧ ∀ k, I' k → I k ∨ (h.n ≤ k ∧ ∃ c e, g.get k = some (.cells c e) ∧ (e = 36 ∨ e = 5))
  o : OwnS 2 h.n g w L.length (flatC L) 41
theorem RC.old {w : V} {L : List (Nat × Bool)} {g gx : Heap} (hc : RC h I rd bl qs S w L g) (hn : g.n ≤ gx.n) (hk : ∀ k, k < g.n → gx.get k = g.get k) : RC h I rd bl qs S w L gx := by
  obtain ⟨h1, h2, ⟨I', h3, h4⟩, h5⟩ := hc
  refine ⟨by omega, fun k h6 h7 => by rw [hk k (by omega)]; exact h2 k h6 h7, ⟨I', h3.old hk, fun k h6 => (h4 k h6).imp id fun h => ?_⟩, h5.old hk⟩
  obtain ⟨q1, c, e, q2, q3⟩ := h
  exact ⟨q1, c, e, by rw [hk k (Heap.lt_of_get q2)]; exact q2, q3⟩
theorem allOne_of : ∀ {l : List V}, (∀ v ∈ l, v.one = true) → allOne l = true
  | [], _ => rfl
  | v :: l, h => by
    have h1 := h v (by simp)
    have h2 := allOne_of fun w hw => h w (List.mem_cons_of_mem v hw)
    simp only [allOne, h1, h2]
theorem RingV.first {v : V} {r : List (List V)} (hv : RingV h I v r) : ∃ sl rs, lenOfV v = some sl.length ∧ firstV h 1 sl.length v = some (sl, rs) ∧ sl.length = r.length ∧ allOne sl = true ∧ ∀ i w, sl[i]? = some w → LR h I w (r.getD i []) := by
  rcases hv with ⟨rfl, a, l, rfl⟩ | ⟨sl, h1, _, h2, h3⟩
  · exact ⟨[], [], rfl, rfl, rfl, rfl, fun i w e => by simp at e⟩
  · obtain ⟨hx, rs, hf, _⟩ := first_lr h1
    refine ⟨sl, rs, hx, hf, h2, allOne_of fun w hw => ?_, h3⟩
    obtain ⟨i, hi, rfl⟩ := List.mem_iff_getElem.1 hw
    exact (h3 i _ (List.getElem?_eq_getElem hi)).one
end Go.Proofs.Ytmimialblhlklaa
