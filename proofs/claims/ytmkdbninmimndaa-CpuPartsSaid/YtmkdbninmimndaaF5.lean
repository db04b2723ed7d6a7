/- The pure run: so many steps, and then the others. -/
import Derived.Test.YtmkdbninmimndaaF2
set_option linter.unusedVariables false
set_option maxRecDepth 100000
namespace Go.Proofs.Ytmkdbninmimndaa
open Go Go.Vm
theorem execO_kind1 {q : Nat → Int} {L : List V} {rs : Regs} {pc : BitVec 32} {op d a b : Nat} {m : Int} {kd cl : Int} {at' : Nat} {nd : Int} (h : execO q L rs pc op d a b m = .stop kd cl at' nd) : kd ≠ 1 := by
  unfold execO at h
  dsimp only at h
  by_cases e1 : op = 1
  · rw [if_pos e1] at h
    cases h
  rw [if_neg e1] at h
  by_cases e2 : op = 2
  · rw [if_pos e2] at h
    cases h; decide
  rw [if_neg e2] at h
  by_cases e4 : op = 4
  · rw [if_pos e4] at h
    cases h; decide
  rw [if_neg e4] at h
  by_cases e3 : op = 3
  · rw [if_pos e3] at h
    cases h; decide
  rw [if_neg e3] at h
  by_cases e5 : op = 5
  · rw [if_pos e5] at h
    cases h
  rw [if_neg e5] at h
  by_cases e6 : op = 6
  · rw [if_pos e6] at h
    cases h
  rw [if_neg e6] at h
  by_cases e7 : op = 7
  · rw [if_pos e7] at h
    cases h
  rw [if_neg e7] at h
  by_cases e18 : op = 18
  · rw [if_pos e18] at h
    cases h
  rw [if_neg e18] at h
  by_cases e19 : op = 19
  · rw [if_pos e19] at h
    split at h
    · cases h; decide
    · cases h
  rw [if_neg e19] at h
  by_cases e21 : op = 21
  · rw [if_pos e21] at h
    split at h
    · cases h; decide
    · cases h
  rw [if_neg e21] at h
  by_cases e20 : op = 20
  · rw [if_pos e20] at h
    split at h
    · cases h; decide
    · cases h
  rw [if_neg e20] at h
  by_cases e22 : op = 22
  · rw [if_pos e22] at h
    split at h
    · cases h; decide
    · cases h
  rw [if_neg e22] at h
  by_cases e25 : op = 25
  · rw [if_pos e25] at h
    cases h
  rw [if_neg e25] at h
  by_cases e23 : op = 23
  · rw [if_pos e23] at h
    cases h
  rw [if_neg e23] at h
  by_cases e24 : op = 24
  · rw [if_pos e24] at h
    cases h
  rw [if_neg e24] at h
  by_cases e26 : op = 26
  · rw [if_pos e26] at h
    cases h
  rw [if_neg e26] at h
  by_cases e27 : op = 27
  · rw [if_pos e27] at h
    cases h
  rw [if_neg e27] at h
  by_cases e28 : op = 28
  · rw [if_pos e28] at h
    cases h
  rw [if_neg e28] at h
  split at h
  · cases h; decide
  · cases h
theorem stepO_kind1 {q : Nat → Int} {L : List V} {rs : Regs} {pc : BitVec 32} {kd cl : Int} {at' : Nat} {nd : Int} (h : stepO q L rs pc = .stop kd cl at' nd) : kd ≠ 1 := by
  unfold stepO at h
  by_cases h4 : pc.toNat % 4 = 0
  · rw [if_pos h4] at h
    split at h
    · cases h; decide
    · by_cases ha : accW (wN L pc.toNat) = true
      · rw [if_pos ha] at h; exact execO_kind1 h
      · rw [if_neg ha] at h; cases h; decide
  · rw [if_neg h4] at h; cases h; decide
variable {q : Nat → Int}
theorem runO_le : ∀ (k used : Nat) (rs : Regs) (pc : BitVec 32) (L : List V), (runO q k used rs pc L).used ≤ used + k
  | 0, used, rs, pc, L => Nat.le_refl _
  | k + 1, used, rs, pc, L => by
    rw [runO]
    cases hs : stepO q L rs pc with
    | go rs' pc' L' => have := runO_le k (used + 1) rs' pc' L'; show (runO q k (used + 1) rs' pc' L').used ≤ _; omega
    | stop kd c a n => show used ≤ _; omega
theorem runO_split : ∀ (a b used : Nat) (rs : Regs) (pc : BitVec 32) (L : List V), runO q (a + b) used rs pc L = if (runO q a used rs pc L).kind = 1 then runO q b (used + a) (runO q a used rs pc L).rs (runO q a used rs pc L).pc (runO q a used rs pc L).L else runO q a used rs pc L
  | 0, b, used, rs, pc, L => by rw [Nat.zero_add]; rfl
  | a + 1, b, used, rs, pc, L => by
    rw [show a + 1 + b = (a + b) + 1 by omega, runO, runO]
    cases hs : stepO q L rs pc with
    | go rs' pc' L' =>
      show runO q (a + b) (used + 1) rs' pc' L' = _
      rw [runO_split a b (used + 1) rs' pc' L', show used + 1 + a = used + (a + 1) by omega]
    | stop kd c x n => rw [if_neg (stepO_kind1 hs)]
theorem runO_used : ∀ (k u v : Nat) (rs : Regs) (pc : BitVec 32) (L : List V), runO q k (u + v) rs pc L = { runO q k v rs pc L with used := u + (runO q k v rs pc L).used }
  | 0, u, v, rs, pc, L => rfl
  | k + 1, u, v, rs, pc, L => by
    rw [runO, runO]
    cases hs : stepO q L rs pc with
    | go rs' pc' L' => exact runO_used k u (v + 1) rs' pc' L'
    | stop kd c x n => rfl
theorem runO_again : ∀ (k used : Nat) (rs : Regs) (pc : BitVec 32) (L : List V), (runO q k used rs pc L).kind ≠ 1 → runO q 1 0 (runO q k used rs pc L).rs (runO q k used rs pc L).pc (runO q k used rs pc L).L = { runO q k used rs pc L with used := 0 }
  | 0, used, rs, pc, L, h => absurd rfl h
  | k + 1, used, rs, pc, L, h => by
    cases hs : stepO q L rs pc with
    | go rs' pc' L' =>
      have e : runO q (k + 1) used rs pc L = runO q k (used + 1) rs' pc' L' := by rw [runO, hs]
      rw [e] at h ⊢
      exact runO_again k (used + 1) rs' pc' L' h
    | stop kd c a n =>
      have e : runO q (k + 1) used rs pc L = ⟨rs, pc, L, kd, c, a, n, used⟩ := by rw [runO, hs]
      rw [e]
      show runO q 1 0 rs pc L = _
      rw [runO, hs]
end Go.Proofs.Ytmkdbninmimndaa
