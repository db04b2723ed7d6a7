/- Forms, names, and which fields an op has. -/
import Derived.Test.YtmkdbninmimndaaD1
import Derived.Test.YtmkdbninmimndaaIr3
set_option linter.unusedVariables false
set_option maxRecDepth 100000
namespace Go.Proofs.Ytmkdbninmimndaa
open Go Go.Vm
set_option maxHeartbeats 40000000 in
theorem form_ok (op : Int) (h : Heap) (R W : Set') : SF (Try.prog : MP) 60 [.int .i64 op] h R W fun v h' => v = .int .i64 (formI op) ∧ h' = h := by
  refine SF.go hm Try.func60 ir60_eq ?_
  by_cases hi : 1 ≤ op ∧ op ≤ 28
  · rcases (show op = 1 ∨ op = 2 ∨ op = 3 ∨ op = 4 ∨ op = 5 ∨ op = 6 ∨ op = 7 ∨ op = 8 ∨ op = 9 ∨ op = 10 ∨ op = 11 ∨ op = 12 ∨ op = 13 ∨ op = 14 ∨ op = 15 ∨ op = 16 ∨ op = 17 ∨ op = 18 ∨ op = 19 ∨ op = 20 ∨ op = 21 ∨ op = 22 ∨ op = 23 ∨ op = 24 ∨ op = 25 ∨ op = 26 ∨ op = 27 ∨ op = 28 by omega) with rfl | rfl | rfl | rfl | rfl | rfl | rfl | rfl | rfl | rfl | rfl | rfl | rfl | rfl | rfl | rfl | rfl | rfl | rfl | rfl | rfl | rfl | rfl | rfl | rfl | rfl | rfl | rfl
    all_goals simp -implicitDefEqProofs (disch := (first | omega | fail)) only [go_sem, seval, ↓reduceIte, reduceCtorEq, ir60, undefV]
    all_goals (first | rfl | decide)
  · obtain ⟨e1, e2, e3, e4, e5, e6, e7, e8, e9, e10, e11, e12, e13, e14, e15, e16, e17, e18, e19, e20, e21, e22, e23, e24, e25, e26, e27, e28⟩ : ¬ op = 1 ∧ ¬ op = 2 ∧ ¬ op = 3 ∧ ¬ op = 4 ∧ ¬ op = 5 ∧ ¬ op = 6 ∧ ¬ op = 7 ∧ ¬ op = 8 ∧ ¬ op = 9 ∧ ¬ op = 10 ∧ ¬ op = 11 ∧ ¬ op = 12 ∧ ¬ op = 13 ∧ ¬ op = 14 ∧ ¬ op = 15 ∧ ¬ op = 16 ∧ ¬ op = 17 ∧ ¬ op = 18 ∧ ¬ op = 19 ∧ ¬ op = 20 ∧ ¬ op = 21 ∧ ¬ op = 22 ∧ ¬ op = 23 ∧ ¬ op = 24 ∧ ¬ op = 25 ∧ ¬ op = 26 ∧ ¬ op = 27 ∧ ¬ op = 28 := by omega
    have g8 : ¬ (8 ≤ op ∧ op ≤ 17) := by omega
    have hf : formI op = 0 := by unfold formI; repeat rw [if_neg (by omega)]
    by_cases hl : op < 1
    · simp -implicitDefEqProofs (disch := (first | omega | fail)) only [go_sem, seval, ↓reduceIte, reduceCtorEq, ir60, undefV, show ¬ 8 ≤ op by omega]
      rw [hf]
    · simp -implicitDefEqProofs (disch := (first | omega | fail)) only [go_sem, seval, ↓reduceIte, reduceCtorEq, ir60, show 8 ≤ op by omega]
      rw [hf]
def fldD (f : Int) : Bool := f == 3 || f == 4 || f == 5 || f == 6
def fldA (f : Int) : Bool := f == 2 || f == 4 || f == 5 || f == 6
def fldB (f : Int) : Bool := f == 5
def fldM (f : Int) : Bool := f == 1 || f == 3 || f == 6
theorem formI_in (op : Int) : formI op = 0 ∨ formI op = 1 ∨ formI op = 2 ∨ formI op = 3 ∨ formI op = 4 ∨ formI op = 5 ∨ formI op = 6 := by
  unfold formI
  (repeat' split) <;> simp
set_option maxHeartbeats 40000000 in
theorem named_ok (op : Int) (h : Heap) (R W : Set') : SF (Try.prog : MP) 59 [.int .i64 (formI op)] h R W fun v h' => v = .agg [.bool (fldD (formI op)), .bool (fldA (formI op)), .bool (fldB (formI op)), .bool (fldM (formI op))] := by
  refine SF.go hm Try.func59 ir59_eq ?_
  rcases formI_in op with e | e | e | e | e | e | e <;> rw [e]
  all_goals simp -implicitDefEqProofs (disch := (first | omega | (simp -implicitDefEqProofs only [szs, ne_eq] <;> omega) | fail)) only [go_sem, seval, ↓reduceIte, reduceCtorEq, ir59, undefV]
  all_goals rfl
theorem wide_ok (op : Int) (h : Heap) (R W : Set') : SF (Try.prog : MP) 61 [.int .i64 op] h R W fun v h' => v = .bool (wideI op) ∧ h' = h := by
  refine SF.go hm Try.func61 ir61_eq ?_
  unfold wideI
  by_cases e3 : op = 3
  · subst e3; simp -implicitDefEqProofs (disch := (first | omega | fail)) only [go_sem, seval, ↓reduceIte, reduceCtorEq, ir61, undefV]; rfl
  by_cases e6 : op = 6
  · subst e6; simp -implicitDefEqProofs (disch := (first | omega | fail)) only [go_sem, seval, ↓reduceIte, reduceCtorEq, ir61]; rfl
  simp -implicitDefEqProofs (disch := (first | omega | fail)) only [go_sem, seval, ↓reduceIte, reduceCtorEq, ir61]
  rfl
theorem ireg_ok (n : Int) (h : Heap) (R W : Set') : SF (Try.prog : MP) 63 [.int .i64 n] h R W fun v h' => v = .bool (decide (0 ≤ n ∧ n < 16)) ∧ h' = h := by
  refine SF.go hm Try.func63 ir63_eq ?_
  by_cases e3 : 0 ≤ n
  · by_cases e6 : n < 16
    · simp -implicitDefEqProofs (disch := (first | omega | fail)) only [go_sem, seval, ↓reduceIte, reduceCtorEq, ir63, e3, e6]
    · simp -implicitDefEqProofs (disch := (first | omega | fail)) only [go_sem, seval, ↓reduceIte, reduceCtorEq, ir63, e3, e6]
  · simp -implicitDefEqProofs (disch := (first | omega | fail)) only [go_sem, seval, ↓reduceIte, reduceCtorEq, ir63, undefV, e3]; try rfl
    try simp
def opNames : List V := [.str { data := #[] }, .str { data := #[110, 111, 112] }, .str { data := #[115, 116, 111, 112] }, .str { data := #[99, 97, 108, 108] }, .str { data := #[98, 97, 99, 107] }, .str { data := #[99, 111, 110, 115, 116] }, .str { data := #[104, 105, 103, 104] }, .str { data := #[99, 111, 112, 121] }, .str { data := #[97, 100, 100] }, .str { data := #[115, 117, 98] }, .str { data := #[109, 117, 108] }, .str { data := #[100, 105, 118] }, .str { data := #[109, 111, 100] }, .str { data := #[97, 110, 100] }, .str { data := #[111, 114] }, .str { data := #[120, 111, 114] }, .str { data := #[115, 104, 108] }, .str { data := #[115, 104, 114] }, .str { data := #[97, 100, 100, 105] }, .str { data := #[108, 111, 97, 100] }, .str { data := #[115, 116, 111, 114, 101] }, .str { data := #[108, 111, 97, 100, 98] }, .str { data := #[115, 116, 111, 114, 101, 98] }, .str { data := #[106, 117, 109, 112] }, .str { data := #[106, 117, 109, 112, 114] }, .str { data := #[108, 105, 110, 107] }, .str { data := #[98, 101, 113] }, .str { data := #[98, 110, 101] }, .str { data := #[98, 108, 116] }]
theorem zv_118 : zeroV Try.prog 118 = some (.agg (List.replicate 29 (.str { data := #[] }))) := by kernel_rfl
theorem bt_118 : builtV Try.prog 118 [(0, V.str { data := #[] }), (1, V.str { data := #[110, 111, 112] }), (2, V.str { data := #[115, 116, 111, 112] }), (3, V.str { data := #[99, 97, 108, 108] }), (4, V.str { data := #[98, 97, 99, 107] }), (5, V.str { data := #[99, 111, 110, 115, 116] }), (6, V.str { data := #[104, 105, 103, 104] }), (7, V.str { data := #[99, 111, 112, 121] }), (8, V.str { data := #[97, 100, 100] }), (9, V.str { data := #[115, 117, 98] }), (10, V.str { data := #[109, 117, 108] }), (11, V.str { data := #[100, 105, 118] }), (12, V.str { data := #[109, 111, 100] }), (13, V.str { data := #[97, 110, 100] }), (14, V.str { data := #[111, 114] }), (15, V.str { data := #[120, 111, 114] }), (16, V.str { data := #[115, 104, 108] }), (17, V.str { data := #[115, 104, 114] }), (18, V.str { data := #[97, 100, 100, 105] }), (19, V.str { data := #[108, 111, 97, 100] }), (20, V.str { data := #[115, 116, 111, 114, 101] }), (21, V.str { data := #[108, 111, 97, 100, 98] }), (22, V.str { data := #[115, 116, 111, 114, 101, 98] }), (23, V.str { data := #[106, 117, 109, 112] }), (24, V.str { data := #[106, 117, 109, 112, 114] }), (25, V.str { data := #[108, 105, 110, 107] }), (26, V.str { data := #[98, 101, 113] }), (27, V.str { data := #[98, 110, 101] }), (28, V.str { data := #[98, 108, 116] })] = some opNames := by kernel_rfl
theorem ln_118 : opNames.length = 29 := by kernel_rfl
theorem ao_118 : allOne opNames = true := by kernel_rfl
set_option maxHeartbeats 40000000 in
theorem names_ok (h : Heap) (R W : Set') : SF (Try.prog : MP) 65 [] h R W fun v h' => v = .agg opNames := by
  refine SF.go hm Try.func65 ir65_eq ?_
  simp -implicitDefEqProofs (disch := (first | omega | (simp -implicitDefEqProofs only [szs, ne_eq] <;> omega) | fail)) only [go_sem, seval, ↓reduceIte, reduceCtorEq, ir65, undefV, zv_118, bt_118, ln_118, ao_118]
  try (simp -implicitDefEqProofs (disch := (first | omega | (simp -implicitDefEqProofs only [szs, ne_eq] <;> omega) | fail)) only [go_sem, seval, opNames])
  try rfl
set_option maxHeartbeats 40000000 in
theorem name_ok (op : Int) (h : Heap) (R W : Set') : SF (Try.prog : MP) 64 [.int .i64 op] h R W fun v h' => (∃ s, v = .str s ∧ strBin .neq s ⟨#[]⟩ = some (.bool (decide (1 ≤ op ∧ op ≤ 28)))) := by
  refine SF.go hm Try.func64 ir64_eq ?_
  by_cases hi : 1 ≤ op ∧ op ≤ 28
  · rw [decide_eq_true hi]
    simp -implicitDefEqProofs (disch := (first | omega | fail)) only [go_sem, seval, ↓reduceIte, reduceCtorEq, ir64]
    refine GCall.of (names_ok h _ _) ?_
    rintro r g rfl
    rcases (show op = 1 ∨ op = 2 ∨ op = 3 ∨ op = 4 ∨ op = 5 ∨ op = 6 ∨ op = 7 ∨ op = 8 ∨ op = 9 ∨ op = 10 ∨ op = 11 ∨ op = 12 ∨ op = 13 ∨ op = 14 ∨ op = 15 ∨ op = 16 ∨ op = 17 ∨ op = 18 ∨ op = 19 ∨ op = 20 ∨ op = 21 ∨ op = 22 ∨ op = 23 ∨ op = 24 ∨ op = 25 ∨ op = 26 ∨ op = 27 ∨ op = 28 by omega) with rfl | rfl | rfl | rfl | rfl | rfl | rfl | rfl | rfl | rfl | rfl | rfl | rfl | rfl | rfl | rfl | rfl | rfl | rfl | rfl | rfl | rfl | rfl | rfl | rfl | rfl | rfl | rfl
    all_goals (simp -implicitDefEqProofs (disch := (first | omega | fail)) only [go_sem, seval, ↓reduceIte, reduceCtorEq, opNames]; exact ⟨_, rfl, by kernel_rfl⟩)
  · rw [decide_eq_false hi]
    by_cases hl : op < 1
    · simp -implicitDefEqProofs (disch := (first | omega | fail)) only [go_sem, seval, ↓reduceIte, reduceCtorEq, ir64, undefV, hl]
      exact ⟨_, rfl, by kernel_rfl⟩
    · simp -implicitDefEqProofs (disch := (first | omega | fail)) only [go_sem, seval, ↓reduceIte, reduceCtorEq, ir64, hl, show 28 < op by omega]
      exact ⟨_, rfl, by kernel_rfl⟩
end Go.Proofs.Ytmkdbninmimndaa
