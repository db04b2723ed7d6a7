/- Views of steps whose parts are not too long. -/
import Derived.Test.YtmimialblhlklaaRO
import Derived.Test.YtmimialblhlklaaVA
import Derived.Test.YtmimialblhlklaaUpto
set_option linter.unusedVariables false
set_option maxRecDepth 100000
namespace Go.Proofs.Ytmimialblhlklaa
open Go Go.Vm
abbrev vtStepU : VT := .struct [.int .i64, .int .i64, .int .i64, .slice vtTe, .slice (.int .u8)]
theorem vissU_cons {B : Nat} {h : Heap} {t : VT} {r : List VT} {cs : List V} (hv : VIssU B h (t :: r) cs) : ∃ a b, cs = a ++ b ∧ VIsU B h t a ∧ VIssU B h r b :=
 ⟨cs.take t.size, cs.drop t.size, (List.take_append_drop _ _).symm, hv.1, hv.2⟩
theorem lens_of {B sz sz2 n : Nat} {h : Heap} {S : Set'} {Q : List V → Prop} {v : V} {l : List V} (hv : LRs sz h S v n l) (hu : VSlU B h sz2 Q v) : n ≤ B := by
 rcases hv.2 with ⟨rfl, _⟩ | ⟨b, o, cap, ex, c, ce, rfl, _⟩
 ·omega
 ·rcases hu with h | ⟨a, h⟩ | ⟨b2, o2, len, cap2, c2, ce2, e, h1, h2, h3, h4, _⟩
  ·cases h
  ·cases h
  ·cases e; omega
theorem len_of {B sz2 : Nat} {h : Heap} {S : Set'} {Q : List V → Prop} {v : V} {l : List V} (hv : LR h S v l) (hu : VSlU B h sz2 Q v) : l.length ≤ B := by
 rcases hv with ⟨rfl, _⟩ | ⟨b, o, cap, ex, c, ce, rfl, _⟩
 ·simp
 ·rcases hu with h | ⟨a, h⟩ | ⟨b2, o2, len, cap2, c2, ce2, e, h1, h2, h3, h4, _⟩
  ·cases h
  ·cases h
  ·cases e; omega
theorem stepsU_of {h : Heap} {v : V} (hv : VSlU 1048576 h 5 (VIsU 1048576 h vtStepU) v) : ∃ m, StepsU h v m ∧ m ≤ 1048576 := by
 rcases hv with rfl | ⟨a, rfl⟩ | ⟨b, o, len, cap, c, ce, rfl, hlc, h0, hcm, hB, hb, hsz, hc⟩
 ·exact ⟨0, ⟨by omega, .inl ⟨rfl, .inl rfl⟩⟩, by omega⟩
 ·exact ⟨0, ⟨by omega, .inl ⟨rfl, .inr ⟨a, rfl⟩⟩⟩, by omega⟩
 ·refine ⟨len, ⟨by omega, .inr ⟨b, o, cap, c, ce, rfl, hb, by omega, fun i hi => ?_⟩⟩, by omega⟩
  obtain ⟨_, _, e0, ⟨n0, rfl, _⟩, hb1⟩ := vissU_cons (hc i (by omega))
  obtain ⟨_, _, rfl, ⟨n1, rfl, _⟩, hb2⟩ := vissU_cons hb1
  obtain ⟨_, _, rfl, ⟨n2, rfl, _⟩, hb3⟩ := vissU_cons hb2
  obtain ⟨_, _, rfl, ⟨vf, rfl, hf⟩, hb4⟩ := vissU_cons hb3
  obtain ⟨_, b5, rfl, ⟨vp, rfl, hp⟩, hb5⟩ := vissU_cons hb4
  have hb' : b5 = [] := hb5
  subst hb'
  obtain ⟨L, hL⟩ := tests_of (hf.vsl fun l hl => hl.vis)
  obtain ⟨l, hl, hby⟩ := byt_of (hp.vsl fun l hl => hl.vis)
  simp only [Blk.gets, List.cons_append, List.nil_append, List.cons.injEq, and_true] at e0
  obtain ⟨a0, a1, a2, a3, a4⟩ := e0
  exact ⟨n0, n1, n2, vf, vp, L, l, a0, a1, a2, a3, a4, ⟨LRs.mono hL fun b hb _ => hb, hl.mono fun b hb _ => hb, hby⟩, lens_of hL hf, len_of hl hp⟩
end Go.Proofs.Ytmimialblhlklaa
