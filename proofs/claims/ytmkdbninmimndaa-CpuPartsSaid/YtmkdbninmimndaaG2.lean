/- The two memories of a start. -/
import Derived.Test.YtmkdbninmimndaaG1
import Derived.Test.YtmkdbninmimndaaF3
import Derived.Test.YtmkdbninmimndaaM4
set_option linter.unusedVariables false
set_option maxRecDepth 100000
namespace Go.Proofs.Ytmkdbninmimndaa
open Go Go.Vm
variable {rs : Regs} {pc : BitVec 32}
theorem own_nil (n0 : Nat) (h : Heap) (e : TypeId) : Own n0 h (.slice none 0 0 true) [] e := .inl ⟨rfl, .inl rfl⟩
set_option maxHeartbeats 4000000 in
theorem mem11_ok {h : Heap} {vC vB vR : V} {m : Nat} {lB Q : List V} {q : Nat → Int} (hC : CodeV h vC m) (hm2 : m ≤ 200) (hB : LV h vB lB) (bB : BytL lB) (hl : lB.length ≤ 2000) (hR : LV h vR Q) (hQ : Q.length ≤ 9223372036854775807) (hint : ∀ i, i < Q.length → Q[i]? = some (.int .i64 (q i))) (n : Int) :
    SF (Try.prog : MP) 11 [startV vC vB vR rs pc n] h (fun _ => True) (fun _ => False) fun r h' => (r = .tuple [.ptr none, .ptr none, .bool false] ∧ ∃ T, lB.length ≤ T ∧ T ≤ 4 * m + lB.length ∧ (8192 < T ∨ badF q (decide (32 < Q.length)) Q.length = true ∨ Q.length * 256 < T)) ∨
      ∃ fp rm vM L n0 n1, r = .tuple [.ptr (some (fp, 0)), .ptr (some (rm, 0)), .bool true] ∧ h.n ≤ n0 ∧ n0 ≤ n1 ∧ FlatAt h' fp n0 L Q q ∧ FB h' fp n1 ∧ h.n < n1 ∧ n1 ≤ rm ∧ RM h' rm n1 vM vR L := by
  have o1 := hC.one; have o2 := hB.one; have o3 := hR.one
  refine SF.go hm Try.func11 ir11_eq ?_
  simp -implicitDefEqProofs (disch := (first | omega | (simp -implicitDefEqProofs only [szs, ne_eq] <;> omega) | fail)) only [go_sem, seval, ↓reduceIte, reduceCtorEq, ir11, undefV]
  refine GCallD.of (R' := fun _ => True) (W' := fun _ => False) (((code_ok (hC.old fun b hb => w_push_ne (by omega) _) (by omega)).kept).foot (fun _ h => h) (fun _ h => h)) ?_
  rintro s g ⟨⟨lC, oC, hlC, bC⟩, vf⟩
  have hn := vf.n
  simp only [Heap.n_push] at hn oC
  have kh : ∀ b, b < h.n → g.get b = h.get b := fun b hb => by
    rw [vf.get b (by simp only [Heap.n_push]; omega) (by simp), w_push_ne (by omega)]
  have gb := vf.get h.n (by simp only [Heap.n_push]; omega) (by simp)
  rw [w_push_eq rfl] at gb
  obtain ⟨hx, rs1, hf⟩ := first_lv (hB.old kh)
  obtain ⟨v3, g3, r3, w3, hap, o3', hn3, k3, hw3⟩ := app_own (e := 5) (bytes := 1) oC (by omega) hx hf (allOne_bytL bB) (by omega) (by omega)
  have kh3 : ∀ b, b < h.n → g3.get b = h.get b := fun b hb => by rw [k3 b (by omega), kh b hb]
  have gb3 := (k3 h.n (by omega)).trans gb
  simp -implicitDefEqProofs (disch := (first | omega | (simp -implicitDefEqProofs only [szs, ne_eq] <;> omega) | fail)) only [go_sem, seval, ↓reduceIte, reduceCtorEq, gb, gb3, appendV_of ap_23, hap]
  refine ⟨⟨⟨fun b hb hq => by simp at hq, fun b hq => by simp at hq⟩, fun b hb hq => by
    have h2 : b = h.n := by simpa using hq.2
    rcases hb with ⟨_, hb⟩ | hb
    · exact hb
    · omega, fun b hq => by simp at hq⟩, ⟨fun b _ hq => hq.elim, fun b _ hq => by have := hw3 b hq; omega⟩, ?_⟩
  have bL := bC.app bB
  have hLL : (lC ++ lB).length = lC.length + lB.length := List.length_append
  refine GCall.of (((newflat_ok (R := fun _ => True) (W := fun _ => False) o3'.lv (by omega) bL (hR.old kh3) hQ hint (fun _ => trivial)).kept).foot (fun _ h => h) (fun _ h => h.elim)) ?_
  rintro r1 g4 ⟨hres, vf4⟩
  have hn4 := vf4.n
  have k4 : ∀ b, b < g3.n → g4.get b = g3.get b := fun b hb => vf4.get b hb id
  have gb4 := (k4 h.n (by omega)).trans gb3
  rcases hres with ⟨h1, rfl, rfl⟩ | ⟨h1, hb, rfl, rfl⟩ | ⟨h1, hb, h2, rfl, rfl⟩ | ⟨h1, hb, h2, fp, rfl, hfp, hfl, hold⟩
  · exfalso; omega
  · simp -implicitDefEqProofs (disch := (first | omega | (simp -implicitDefEqProofs only [szs, ne_eq] <;> omega) | fail)) only [go_sem, seval, ↓reduceIte, reduceCtorEq]
    exact .inl ⟨(lC ++ lB).length, by omega, by omega, .inr (.inl hb)⟩
  · simp -implicitDefEqProofs (disch := (first | omega | (simp -implicitDefEqProofs only [szs, ne_eq] <;> omega) | fail)) only [go_sem, seval, ↓reduceIte, reduceCtorEq]
    exact .inl ⟨_, by omega, by omega, .inr (.inr h2)⟩
  · have hlen := (o3'.old hold).lv.len23
    have hlR := hR.len24
    obtain ⟨hx5, rs5, hf5⟩ := first_lv (o3'.old hold).lv
    obtain ⟨v5, g5, r5, w5, hap5, o5, hn5, k5, hw5⟩ := app_own (n0 := g4.n) (e := 5) (bytes := 1) (own_nil g4.n g4 5) (Nat.le_refl _) hx5 hf5 (allOne_bytL bL) (by simp only [List.length_nil]; omega) (by simp only [List.length_nil]; omega)
    rw [List.nil_append] at o5
    have hfe := hfl.few
    obtain ⟨v6, g6, r6, w6, hap6, o6, hn6, k6, hw6⟩ := app_zero (k := Q.length * 256 - (lC ++ lB).length) o5 hn5 (by omega) (by omega)
    have hcast : (Q.length : Int) * 256 - ((lC ++ lB).length : Int) = ((Q.length * 256 - (lC ++ lB).length : Nat) : Int) := by omega
    have gb5 := (k5 h.n (by omega)).trans gb4
    have gb6 := (k6 h.n (by omega)).trans gb5
    obtain ⟨pa, na, ca, xa, rfl⟩ := o6.shape
    have hcR := hR.cells
    simp -implicitDefEqProofs (disch := (first | omega | (simp -implicitDefEqProofs only [szs, ne_eq] <;> omega) | fail)) only [go_sem, seval, ↓reduceIte, reduceCtorEq, undefV, gb5, gb6, ↓hlen, ↓hlR, hcast, appendV_of ap_23, hap5, hap6, ↓hcR]
    have n5 : ∀ b, b < g4.n ∧ b ∈ w5 ∨ g4.n ≤ b ∧ b < g5.n → g4.n ≤ b := fun b hb => by
      rcases hb with hb | hb
      · exact hw5 b hb.2
      · exact hb.1
    have n6 : ∀ b, b < g5.n ∧ b ∈ w6 ∨ g5.n ≤ b ∧ b < g6.n → g4.n ≤ b := fun b hb => by
      rcases hb with hb | hb
      · exact hw6 b hb.2
      · omega
    simp only [List.not_mem_nil, or_false, and_false, false_implies, implies_true, not_false_eq_true, List.mem_cons, and_true, true_and]
    have k46 : ∀ b, b < g4.n → (g6.push (.cells (Blk.of [V.slice pa na ca xa, vR]) 46)).get b = g4.get b := fun b hb => by rw [w_push_ne (by omega), k6 b hb, k5 b hb]
    refine ⟨⟨fun b hb hq => ?_, fun b hb hq => ?_, fun b hb hq => ?_⟩, ⟨fun b hb hq => ?_, fun b hb hq => ?_⟩, .inr ⟨fp, g6.n, _, _, g3.n, g4.n, rfl, by omega, hn4, hfl.old k46, hfl.fb.same (k46 _ hfl.fb.1), by omega, by omega, ⟨⟨_, w_push_eq rfl _, rfl, rfl, rfl⟩, ?_⟩⟩⟩
    · have := n5 b hb; omega
    · have := n5 b hb; omega
    · have := n6 b hb; omega
    · have := hw5 b hq; omega
    · have := hw6 b hq; omega
    · exact o6.old fun b hb => w_push_ne (by omega) _
end Go.Proofs.Ytmkdbninmimndaa
