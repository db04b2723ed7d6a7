/- What the laws are given: a start, an instruction, a state. -/
import Derived.Test.YtmkdbninmimndaaV4
import Derived.Test.YtmkdbninmimndaaG2
set_option linter.unusedVariables false
set_option maxRecDepth 100000
namespace Go.Proofs.Ytmkdbninmimndaa
open Go Go.Vm
theorem viss_cons {h : Heap} {t : VT} {r : List VT} {cs : List V} (hv : VIss h (t :: r) cs) : ∃ a b, cs = a ++ b ∧ VIs h t a ∧ VIss h r b :=
  ⟨cs.take t.size, cs.drop t.size, (List.take_append_drop _ _).symm, hv.1, hv.2⟩
theorem u32_U {n : Int} (h0 : 0 ≤ n) (h1 : n ≤ 4294967295) : V.int .u32 n = U (BitVec.ofInt 32 n) := by
  show V.int .u32 n = V.int .u32 ((BitVec.ofInt 32 n).toNat : Int)
  congr 1
  rw [BitVec.toNat_ofInt]
  omega
theorem regs_of {h : Heap} {a : List V} (ha : VIs h (.array 16 (.int .u32)) a) : ∃ rs : Regs, a = regL rs := by
  obtain ⟨hl, hi⟩ := ha
  simp only [VT.size] at hl hi
  refine ⟨fun k => match a[k]? with | some (.int _ n) => BitVec.ofInt 32 n | _ => 0#32, ?_⟩
  refine List.ext_getElem? fun k => ?_
  by_cases hk : k < 16
  · obtain ⟨n, e, h0, h1⟩ := hi k hk
    have e2 : a[k]? = some (.int .u32 n) := by
      have : ((a.drop (k * 1)).take 1)[0]? = some (.int .u32 n) := by rw [e]; rfl
      rw [List.getElem?_take_of_lt (by omega), List.getElem?_drop, Nat.mul_one, Nat.add_zero] at this
      exact this
    have h0' : 0 ≤ n := h0
    have h1' : n ≤ 4294967295 := h1
    rw [regL, List.getElem?_map, List.getElem?_range hk, Option.map_some]
    simp only [e2]
    rw [u32_U h0' h1']
  · rw [List.getElem?_eq_none (by omega), List.getElem?_eq_none (by simp [regL]; omega)]
abbrev vtInstr : VT := .struct [.int .i64, .int .i64, .int .i64, .int .i64, .int .i64]
abbrev vtState : VT := .struct [.array 16 (.int .u32), .int .u32]
abbrev vtStart : VT := .struct [.slice vtInstr, .slice (.int .u8), .slice (.int .i64), vtState, .int .i64]
theorem state_of {h : Heap} {a : List V} (ha : VIs h vtState a) : ∃ (rs : Regs) (pc : BitVec 32), a = regL rs ++ [U pc] := by
  obtain ⟨a0, b0, rfl, h0, hb1⟩ := viss_cons ha
  obtain ⟨a1, b1, rfl, h1, hb2⟩ := viss_cons hb1
  obtain ⟨rs, rfl⟩ := regs_of h0
  obtain ⟨n, rfl, l1, l2⟩ := h1
  have hb' : b1 = [] := hb2
  subst hb'
  have l1' : 0 ≤ n := l1
  have l2' : n ≤ 4294967295 := l2
  exact ⟨rs, BitVec.ofInt 32 n, by rw [u32_U l1' l2']; simp⟩
theorem instr_of {h : Heap} {a : List V} (ha : VIs h vtInstr a) : ∃ op d x b m : Int, a = [.int .i64 op, .int .i64 d, .int .i64 x, .int .i64 b, .int .i64 m] := by
  obtain ⟨_, _, rfl, ⟨n0, rfl, _⟩, hb1⟩ := viss_cons ha
  obtain ⟨_, _, rfl, ⟨n1, rfl, _⟩, hb2⟩ := viss_cons hb1
  obtain ⟨_, _, rfl, ⟨n2, rfl, _⟩, hb3⟩ := viss_cons hb2
  obtain ⟨_, _, rfl, ⟨n3, rfl, _⟩, hb4⟩ := viss_cons hb3
  obtain ⟨_, b4, rfl, ⟨n4, rfl, _⟩, hb5⟩ := viss_cons hb4
  have hb' : b4 = [] := hb5
  subst hb'
  exact ⟨n0, n1, n2, n3, n4, rfl⟩
theorem code_of {h : Heap} {v : V} (hv : VSl h 5 (VIs h vtInstr) v) : ∃ m, CodeV h v m := by
  rcases hv with rfl | ⟨a, rfl⟩ | ⟨b, o, len, cap, c, ce, rfl, hlc, h0, hcm, hb, hsz, hc⟩
  · exact ⟨0, by omega, .inl ⟨rfl, .inl rfl⟩⟩
  · exact ⟨0, by omega, .inl ⟨rfl, .inr ⟨a, rfl⟩⟩⟩
  · refine ⟨len, by omega, .inr ⟨b, o, cap, true, c, ce, rfl, hb, by omega, fun i hi => ?_⟩⟩
    obtain ⟨op, d, x, b2, m, e⟩ := instr_of (hc i (by omega))
    simp only [Blk.gets, List.cons.injEq, and_true] at e
    obtain ⟨e0, e1, e2, e3, e4⟩ := e
    exact ⟨op, d, x, b2, m, e0, e1, e2, e3, e4⟩
theorem lv_ofV {h : Heap} {v : V} {k : IntKind} (hv : VSl h 1 (VIs h (.int k)) v) : ∃ l, LV h v l ∧ l.length ≤ 9223372036854775807 ∧ ∀ x ∈ l, ∃ n : Int, x = .int k n ∧ k.min ≤ n ∧ n ≤ k.max := by
  rcases hv with rfl | ⟨a, rfl⟩ | ⟨b, o, len, cap, c, ce, rfl, hlc, h0, hcm, hb, hsz, hc⟩
  · exact ⟨[], .inl ⟨rfl, .inl rfl⟩, by simp, fun x hx => by cases hx⟩
  · exact ⟨[], .inl ⟨rfl, .inr ⟨a, rfl⟩⟩, by simp, fun x hx => by cases hx⟩
  · refine ⟨c.gets o len, .inr ⟨b, o, cap, true, c, ce, by rw [Blk.length_gets], hb, by rw [Blk.length_gets]; omega, by rw [Blk.length_gets]⟩, by rw [Blk.length_gets]; omega, fun x hx => ?_⟩
    obtain ⟨j, hj, e⟩ := List.mem_iff_getElem.1 hx
    rw [Blk.length_gets] at hj
    have e2 := Blk.gets_get c len o j hj
    rw [List.getElem?_eq_getElem (by rw [Blk.length_gets]; exact hj), e] at e2
    obtain ⟨n, hn, h1, h2⟩ := hc j (by omega)
    rw [Nat.mul_one] at hn
    simp only [Blk.gets] at hn
    exact ⟨n, (Option.some.inj e2).trans (List.cons.inj hn).1, h1, h2⟩
theorem start_of {h : Heap} {cs : List V} (ha : VIs h vtStart cs) : ∃ (vC vB vR : V) (rs : Regs) (pc : BitVec 32) (n : Int) (m : Nat) (lB Q : List V) (q : Nat → Int), V.agg cs = startV vC vB vR rs pc n ∧ CodeV h vC m ∧ LV h vB lB ∧ BytL lB ∧ LV h vR Q ∧ Q.length ≤ 9223372036854775807 ∧ (∀ i, i < Q.length → Q[i]? = some (.int .i64 (q i))) ∧ -9223372036854775808 ≤ n ∧ n ≤ 9223372036854775807 := by
  obtain ⟨_, _, rfl, ⟨vC, rfl, hC⟩, hb1⟩ := viss_cons ha
  obtain ⟨_, _, rfl, ⟨vB, rfl, hB⟩, hb2⟩ := viss_cons hb1
  obtain ⟨_, _, rfl, ⟨vR, rfl, hR⟩, hb3⟩ := viss_cons hb2
  obtain ⟨_, _, rfl, hS, hb4⟩ := viss_cons hb3
  obtain ⟨_, b4, rfl, ⟨n, rfl, l1, l2⟩, hb5⟩ := viss_cons hb4
  have hb' : b4 = [] := hb5
  subst hb'
  obtain ⟨rs, pc, rfl⟩ := state_of hS
  obtain ⟨m, hC⟩ := code_of hC
  obtain ⟨lB, hB, _, hB2⟩ := lv_ofV hB
  obtain ⟨Q, hR, hQ, hR2⟩ := lv_ofV hR
  refine ⟨vC, vB, vR, rs, pc, n, m, lB, Q, fun i => match Q[i]? with | some (.int _ n) => n | _ => 0, rfl, hC, hB, fun i hi => ?_, hR, hQ, fun i hi => ?_, l1, l2⟩
  · obtain ⟨x, e, h1, h2⟩ := hB2 lB[i] (List.getElem_mem hi)
    exact ⟨x, by rw [List.getElem?_eq_getElem hi, e], h1, h2⟩
  · obtain ⟨x, e, _⟩ := hR2 Q[i] (List.getElem_mem hi)
    have e2 : Q[i]? = some (.int .i64 x) := by rw [List.getElem?_eq_getElem hi, e]
    simp only [e2]
end Go.Proofs.Ytmkdbninmimndaa
