/- The log, plainly: what counts of a half. -/
import Derived.Test.YtakgjjbmniilhaaP1
set_option linter.unusedVariables false
set_option linter.unusedSimpArgs false
set_option linter.unusedSimpArgs false
set_option maxRecDepth 100000
set_option linter.unusedVariables false
set_option linter.unusedSimpArgs false
namespace Go.Proofs.Ytakgjjbmniilhaa
open Go Go.Vm
structure LS where
  wn : Nat
  we : Nat
  wp : Nat
  wo : Nat
  rc : List V
  cn : Nat
  rs : List (List V)
  at' : Nat
  nx : Nat
def badL (he : Nat) (s : LS) (r : Rc) : Prop := r.num ≠ s.wn ∨ r.pl ≠ s.wp ∨ (r.pl = 0 ∧ (r.ep < s.we ∨ he < r.ep)) ∨ (0 < r.pl ∧ (r.ep ≠ s.we ∨ r.of ≠ s.wo))
instance (he : Nat) (s : LS) (r : Rc) : Decidable (badL he s r) := by unfold badL; exact inferInstance
def goodL (s : LS) (r : Rc) : LS := if r.pl + 1 = r.of then ⟨s.nx + 1, r.ep, 0, 0, [], 0, s.rs ++ [s.rc ++ r.dat], s.at' + (s.cn + 1), s.nx + 1⟩ else ⟨r.num, r.ep, r.pl + 1, r.of, s.rc ++ r.dat, s.cn + 1, s.rs, s.at', s.nx⟩
noncomputable def runL (sec : Nat → List V) (he : Nat) : Nat → Nat → LS → LS
  | 0, _, s => s
  | k + 1, i, s => match recA (sec i) with
    | none => s
    | some r => if badL he s r then s else runL sec he k (i + 1) (goodL s r)
def LS.fin (s : LS) : List (List V) × Nat × Nat := (s.rs, s.at', s.nx)
def freshL (nx we : Nat) (rs : List (List V)) (at' : Nat) : LS := ⟨nx, we, 0, 0, [], 0, rs, at', nx⟩
theorem recA_of {b : List V} {r : Rc} (h : recA b = some r) : 1 ≤ r.of ∧ r.of ≤ 64 ∧ r.pl < r.of := by
  obtain ⟨_, ⟨_, h2, h3, h4, _⟩, _⟩ := recA_some h
  exact ⟨h2, h3, h4⟩
end Go.Proofs.Ytakgjjbmniilhaa
