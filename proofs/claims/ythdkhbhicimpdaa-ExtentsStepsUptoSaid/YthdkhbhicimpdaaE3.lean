/- Runs as a list. -/
import Derived.Test.YthdkhbhicimpdaaE2
set_option linter.unusedVariables false
set_option maxRecDepth 100000
namespace Go.Proofs.Ythdkhbhicimpdaa
open Go Go.Vm
def rl (f : Nat → Bool) : Nat → List (Nat × Nat)
  | 0 => []
  | i + 1 => if f i = false then rl f i else match (rl f i).getLast? with
    | some x => if x.1 + x.2 = i then (rl f i).dropLast ++ [(x.1, x.2 + 1)] else rl f i ++ [(i, 1)]
    | none => [(i, 1)]
theorem rl_succ (f : Nat → Bool) (i : Nat) : rl f (i + 1) = if f i = false then rl f i else match (rl f i).getLast? with
    | some x => if x.1 + x.2 = i then (rl f i).dropLast ++ [(x.1, x.2 + 1)] else rl f i ++ [(i, 1)]
    | none => [(i, 1)] := rfl
theorem mem_last {α : Type} {l : List α} {x : α} (h : l.getLast? = some x) : l = l.dropLast ++ [x] := by
  have hne : l ≠ [] := fun e => by rw [e] at h; cases h
  rw [List.getLast?_eq_some_getLast hne] at h
  cases h
  exact (List.dropLast_concat_getLast hne).symm
theorem rl_end (f : Nat → Bool) : ∀ i x, x ∈ rl f i → x.1 + x.2 ≤ i
  | 0, x, h => by simp [rl] at h
  | i + 1, x, h => by
    unfold rl at h
    split at h
    · have := rl_end f i x h; omega
    · split at h
      · rename_i y hy
        have hl := mem_last hy
        split at h
        · rename_i e
          rcases List.mem_append.1 h with h | h
          · have := rl_end f i x (by rw [hl]; exact List.mem_append_left _ h); omega
          · simp at h; subst h; simp; omega
        · rcases List.mem_append.1 h with h | h
          · have := rl_end f i x h; omega
          · simp at h; subst h; simp
      · simp at h; subst h; simp
def Bdy (f : Nat → Bool) (p : Nat) : Prop := p = 0 ∨ f (p - 1) = false
theorem rl_bdy {f : Nat → Bool} {p : Nat} (hb : Bdy f p) : ∀ x ∈ rl f p, x.1 + x.2 < p := by
  intro x hx
  rcases hb with rfl | hb
  · simp [rl] at hx
  · cases p with
    | zero => simp [rl] at hx
    | succ p =>
      rw [Nat.add_sub_cancel] at hb
      simp only [rl, hb, if_true] at hx
      have := rl_end f p x hx; omega
theorem rl_run {f : Nat → Bool} {p : Nat} (hb : Bdy f p) : ∀ {k : Nat}, 1 ≤ k → (∀ s, p ≤ s → s < p + k → f s = true) → rl f (p + k) = rl f p ++ [(p, k)]
  | 0, h, _ => by omega
  | k + 1, _, hall => by
    have hpk := hall (p + k) (by omega) (by omega)
    rw [← Nat.add_assoc, rl_succ, if_neg (by rw [hpk]; simp)]
    by_cases e : k = 0
    · subst e
      simp only [Nat.add_zero, Nat.zero_add]
      split
      · rename_i y hy
        have := rl_bdy hb y (by rw [mem_last hy]; simp)
        rw [if_neg (by omega)]
      · rename_i hy
        rw [List.getLast?_eq_none_iff] at hy
        rw [hy]; rfl
    · rw [rl_run hb (k := k) (by omega) (fun s h1 h2 => hall s h1 (by omega))]
      simp
theorem rl_pre {f : Nat → Bool} {b : Nat} (hb : Bdy f b) : ∀ {m : Nat}, b ≤ m → ∃ t, rl f m = rl f b ++ t
  | 0, h => by obtain rfl : b = 0 := by omega
               exact ⟨[], by simp⟩
  | m + 1, h => by
    by_cases e : b = m + 1
    · subst e; exact ⟨[], by simp⟩
    · obtain ⟨t, ht⟩ := rl_pre hb (m := m) (by omega)
      by_cases hf : f m = false
      · exact ⟨t, by simp only [rl, hf, if_true]; exact ht⟩
      · simp only [rl, if_neg hf]
        split
        · rename_i y hy
          split
          · rename_i e2
            cases t with
            | nil =>
              rw [List.append_nil] at ht
              have := rl_bdy hb y (by rw [← ht, mem_last hy]; simp)
              omega
            | cons z t =>
              refine ⟨(z :: t).dropLast ++ [(y.1, y.2 + 1)], ?_⟩
              rw [ht, List.dropLast_append_of_ne_nil (by simp), List.append_assoc]
          · exact ⟨t ++ [(m, 1)], by rw [ht, List.append_assoc]⟩
        · rename_i hy
          rw [List.getLast?_eq_none_iff] at hy
          rw [hy] at ht
          have : rl f b = [] := by cases h : rl f b <;> simp [h] at ht <;> first | rfl | exact ht
          exact ⟨[(m, 1)], by rw [this]; rfl⟩
theorem rl_at {f : Nat → Bool} {p k N : Nat} (hb : Bdy f p) (hk : 1 ≤ k) (hN : p + k ≤ N) (hall : ∀ s, p ≤ s → s < p + k → f s = true) (hmax : p + k = N ∨ f (p + k) = false) : (rl f N)[(rl f p).length]? = some (p, k) ∧ (rl f (min (p + k + 1) N)).length = (rl f p).length + 1 ∧ (p + k + 1 ≤ N → Bdy f (p + k + 1)) := by
  have hr := rl_run hb hk hall
  by_cases e : p + k = N
  · subst e
    rw [Nat.min_eq_right (by omega), hr]
    exact ⟨by simp, by simp, fun h => by omega⟩
  · have hf : f (p + k) = false := hmax.resolve_left e
    have hb2 : Bdy f (p + k + 1) := .inr (by simpa using hf)
    have h1 : rl f (p + k + 1) = rl f p ++ [(p, k)] := by rw [← hr]; simp only [rl, hf, if_true]
    obtain ⟨t, ht⟩ := rl_pre hb2 (m := N) (by omega)
    rw [Nat.min_eq_left (by omega), h1, ht, h1]
    exact ⟨by simp, by simp, fun _ => hb2⟩
theorem rl_skip {f : Nat → Bool} {p : Nat} (h : f p = false) : rl f (p + 1) = rl f p ∧ Bdy f (p + 1) := ⟨by simp only [rl, h, if_true], .inr (by simpa using h)⟩
theorem rl_len (f : Nat → Bool) : ∀ i, (rl f i).length ≤ i
  | 0 => by simp [rl]
  | i + 1 => by
    have := rl_len f i
    unfold rl
    split
    · omega
    · split
      · split
        · simp; omega
        · simp; omega
      · simp
end Go.Proofs.Ythdkhbhicimpdaa
