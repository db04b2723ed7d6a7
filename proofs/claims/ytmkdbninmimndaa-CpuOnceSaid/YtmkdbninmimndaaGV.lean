/- What the laws are given: a start, an instruction, a state. -/
import Derived.Test.YtmkdbninmimndaaV4
import Derived.Test.YtmkdbninmimndaaG2
set_option linter.unusedVariables false
set_option maxRecDepth 100000
namespace Go.Proofs.Ytmkdbninmimndaa
open Go Go.Vm
theorem viss_cons {h : Heap} {t : VT} {r : List VT} {cs : List V} (hv : VIss h (t :: r) cs) : ∃ a b, cs = a ++ b ∧ VIs h t a ∧ VIss h r b :=
  ⟨cs.take t.size, cs.drop t.size, (List.take_append_drop _ _).symm, hv.1, hv.2⟩
theorem u32_U {n : Int} (h0 : 0 ≤ n) (h1 : n ≤ 4294967295) : V.int .u32 n = U (BitVec.ofInt 32 n) := by
  show V.int .u32 n = V.int .u32 ((BitVec.ofInt 32 n).toNat : Int)
  congr 1
  rw [BitVec.toNat_ofInt]
  omega
theorem regs_of {h : Heap} {a : List V} (ha : VIs h (.array 16 (.int .u32)) a) : ∃ rs : Regs, a = regL rs := by
  obtain ⟨hl, hi⟩ := ha
  simp only [VT.size] at hl hi
  refine ⟨fun k => match a[k]? with | some (.int _ n) => BitVec.ofInt 32 n | _ => 0#32, ?_⟩
  refine List.ext_getElem? fun k => ?_
  by_cases hk : k < 16
  · obtain ⟨n, e, h0, h1⟩ := hi k hk
    have e2 : a[k]? = some (.int .u32 n) := by
      have : ((a.drop (k * 1)).take 1)[0]? = some (.int .u32 n) := by rw [e]; rfl
      rw [List.getElem?_take_of_lt (by omega), List.getElem?_drop, Nat.mul_one, Nat.add_zero] at this
      exact this
    have h0' : 0 ≤ n := h0
    have h1' : n ≤ 4294967295 := h1
    rw [regL, List.getElem?_map, List.getElem?_range hk, Option.map_some]
    simp only [e2]
    rw [u32_U h0' h1']
  · rw [List.getElem?_eq_none (by omega), List.getElem?_eq_none (by simp [regL]; omega)]
abbrev vtInstr : VT := .struct [.int .i64, .int .i64, .int .i64, .int .i64, .int .i64]
abbrev vtState : VT := .struct [.array 16 (.int .u32), .int .u32]
theorem state_of {h : Heap} {a : List V} (ha : VIs h vtState a) : ∃ (rs : Regs) (pc : BitVec 32), a = regL rs ++ [U pc] := by
  obtain ⟨a0, b0, rfl, h0, hb1⟩ := viss_cons ha
  obtain ⟨a1, b1, rfl, h1, hb2⟩ := viss_cons hb1
  obtain ⟨rs, rfl⟩ := regs_of h0
  obtain ⟨n, rfl, l1, l2⟩ := h1
  have hb' : b1 = [] := hb2
  subst hb'
  have l1' : 0 ≤ n := l1
  have l2' : n ≤ 4294967295 := l2
  exact ⟨rs, BitVec.ofInt 32 n, by rw [u32_U l1' l2']; simp⟩
theorem instr_of {h : Heap} {a : List V} (ha : VIs h vtInstr a) : ∃ op d x b m : Int, a = [.int .i64 op, .int .i64 d, .int .i64 x, .int .i64 b, .int .i64 m] := by
  obtain ⟨_, _, rfl, ⟨n0, rfl, _⟩, hb1⟩ := viss_cons ha
  obtain ⟨_, _, rfl, ⟨n1, rfl, _⟩, hb2⟩ := viss_cons hb1
  obtain ⟨_, _, rfl, ⟨n2, rfl, _⟩, hb3⟩ := viss_cons hb2
  obtain ⟨_, _, rfl, ⟨n3, rfl, _⟩, hb4⟩ := viss_cons hb3
  obtain ⟨_, b4, rfl, ⟨n4, rfl, _⟩, hb5⟩ := viss_cons hb4
  have hb' : b4 = [] := hb5
  subst hb'
  exact ⟨n0, n1, n2, n3, n4, rfl⟩
end Go.Proofs.Ytmkdbninmimndaa
