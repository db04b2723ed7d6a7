/- The document's May, Word, Of (printed by genD6.py). -/
import Derived.Test.YtmkdbninmimndaaD5
set_option linter.unusedVariables false
set_option maxRecDepth 100000
namespace Go.Proofs.Ytmkdbninmimndaa
open Go Go.Vm
def regR (is : Bool) (n : Int) : Bool := decide (n = 0) || is && decide (0 < n ∧ n < 16)
def mayR (op d a b imm : Int) : Bool := decide (1 ≤ op ∧ op ≤ 28) && regR (fldD (formI op)) d && regR (fldA (formI op)) a && regR (fldB (formI op)) b && (decide (imm = 0) || fldM (formI op) && decide (loI op ≤ imm) && decide (imm ≤ hiI op))
theorem and_16 (n : Int) : intBin .and .i64 n 65535 = some (.int .i64 (n % 65536)) := by
  show some (V.int .i64 (IntKind.i64.wrap ((BitVec.ofInt 64 n &&& BitVec.ofInt 64 65535).toNat : Int))) = _
  have e : (BitVec.ofInt 64 n &&& BitVec.ofInt 64 65535).toNat = (n % 65536).toNat := by
    rw [BitVec.toNat_and, show (BitVec.ofInt 64 65535).toNat = 2 ^ 16 - 1 from rfl, Nat.and_two_pow_sub_one_eq_mod, BitVec.toNat_ofInt]
    have := Int.emod_nonneg n (show (18446744073709551616 : Int) ≠ 0 by decide)
    rw [show ((2 ^ 64 : Nat) : Int) = 18446744073709551616 from rfl, show (2 ^ 16 : Nat) = 65536 from rfl]
    omega
  rw [e]
  have := Int.emod_nonneg n (show (65536 : Int) ≠ 0 by decide)
  have := Int.emod_lt_of_pos n (show (0 : Int) < 65536 by decide)
  rw [Int.toNat_of_nonneg (by omega), IntWalk.i64_in _ (by omega)]
set_option maxHeartbeats 40000000 in
theorem rmay49_ok (op d a b imm : Int) (h : Heap) : SF (Try.prog : MP) 56 [insV op d a b imm] h (fun _ => False) (fun _ => False) fun v h' => v = .bool (mayR op d a b imm) := by
  refine SF.go hm Try.func56 ir56_eq ?_
  unfold mayR
  simp -implicitDefEqProofs (disch := (first | omega | (simp -implicitDefEqProofs only [szs, ne_eq] <;> omega) | fail)) only [go_sem, seval, ↓reduceIte, reduceCtorEq, ir56, undefV]
  refine GCall.of (rform_ok _ _ _ _) ?_
  rintro r g ⟨rfl, rfl⟩
  simp -implicitDefEqProofs (disch := (first | omega | (simp -implicitDefEqProofs only [szs, ne_eq] <;> omega) | fail)) only [go_sem, seval, ↓reduceIte, reduceCtorEq]
  refine GCall.of (rnames_ok _ _ _ _) ?_
  rintro r g ⟨rfl, rfl⟩
  by_cases n3 : op = 3
  · subst n3
    have hlo : loI 3 = 0 := by decide
    have hhi : hiI 3 = 65535 := by decide
    have o12 : decide (1 ≤ (3 : Int) ∧ (3 : Int) ≤ 28) = true := by decide
    rw [o12, hlo, hhi]
    simp -implicitDefEqProofs (disch := (first | omega | (simp -implicitDefEqProofs only [szs, ne_eq] <;> omega) | fail)) only [go_sem, seval, ↓reduceIte, reduceCtorEq, undefV]
    refine GCall.of (rreg_ok _ _ _ _ _) ?_
    rintro r g ⟨rfl, rfl⟩
    rw [show (decide (d = 0) || fldD (formI 3) && decide (0 < d ∧ d < 16)) = regR (fldD (formI 3)) d from rfl]
    cases zd : regR (fldD (formI 3)) d
    · simp -implicitDefEqProofs (disch := (first | omega | (simp -implicitDefEqProofs only [szs, ne_eq] <;> omega) | fail)) only [go_sem, seval, ↓reduceIte, reduceCtorEq, undefV]; simp
    simp -implicitDefEqProofs (disch := (first | omega | (simp -implicitDefEqProofs only [szs, ne_eq] <;> omega) | fail)) only [go_sem, seval, ↓reduceIte, reduceCtorEq, undefV]
    refine GCall.of (rreg_ok _ _ _ _ _) ?_
    rintro r g ⟨rfl, rfl⟩
    rw [show (decide (a = 0) || fldA (formI 3) && decide (0 < a ∧ a < 16)) = regR (fldA (formI 3)) a from rfl]
    cases za : regR (fldA (formI 3)) a
    · simp -implicitDefEqProofs (disch := (first | omega | (simp -implicitDefEqProofs only [szs, ne_eq] <;> omega) | fail)) only [go_sem, seval, ↓reduceIte, reduceCtorEq, undefV]; simp
    simp -implicitDefEqProofs (disch := (first | omega | (simp -implicitDefEqProofs only [szs, ne_eq] <;> omega) | fail)) only [go_sem, seval, ↓reduceIte, reduceCtorEq, undefV]
    refine GCall.of (rreg_ok _ _ _ _ _) ?_
    rintro r g ⟨rfl, rfl⟩
    rw [show (decide (b = 0) || fldB (formI 3) && decide (0 < b ∧ b < 16)) = regR (fldB (formI 3)) b from rfl]
    cases zb : regR (fldB (formI 3)) b
    · simp -implicitDefEqProofs (disch := (first | omega | (simp -implicitDefEqProofs only [szs, ne_eq] <;> omega) | fail)) only [go_sem, seval, ↓reduceIte, reduceCtorEq, undefV]; simp
    by_cases i0 : imm = 0
    · simp -implicitDefEqProofs (disch := (first | omega | (simp -implicitDefEqProofs only [szs, ne_eq] <;> omega) | fail)) only [go_sem, seval, ↓reduceIte, reduceCtorEq, undefV, i0]; simp
    simp -implicitDefEqProofs (disch := (first | omega | (simp -implicitDefEqProofs only [szs, ne_eq] <;> omega) | fail)) only [go_sem, seval, ↓reduceIte, reduceCtorEq, undefV, i0]
    cases zm : fldM (formI 3)
    · simp -implicitDefEqProofs (disch := (first | omega | (simp -implicitDefEqProofs only [szs, ne_eq] <;> omega) | fail)) only [go_sem, seval]; simp [i0]
    by_cases il : 0 ≤ imm
    rotate_left
    · simp -implicitDefEqProofs (disch := (first | omega | (simp -implicitDefEqProofs only [szs, ne_eq] <;> omega) | fail)) only [go_sem, seval, il]; simp [i0]
    by_cases ih : imm ≤ 65535
    rotate_left
    · simp -implicitDefEqProofs (disch := (first | omega | (simp -implicitDefEqProofs only [szs, ne_eq] <;> omega) | fail)) only [go_sem, seval, il, ih]; simp [i0]
    simp -implicitDefEqProofs (disch := (first | omega | (simp -implicitDefEqProofs only [szs, ne_eq] <;> omega) | fail)) only [go_sem, seval, il, ih]; simp [i0]
  by_cases n6 : op = 6
  · subst n6
    have hlo : loI 6 = 0 := by decide
    have hhi : hiI 6 = 65535 := by decide
    have o12 : decide (1 ≤ (6 : Int) ∧ (6 : Int) ≤ 28) = true := by decide
    rw [o12, hlo, hhi]
    simp -implicitDefEqProofs (disch := (first | omega | (simp -implicitDefEqProofs only [szs, ne_eq] <;> omega) | fail)) only [go_sem, seval, ↓reduceIte, reduceCtorEq, undefV]
    refine GCall.of (rreg_ok _ _ _ _ _) ?_
    rintro r g ⟨rfl, rfl⟩
    rw [show (decide (d = 0) || fldD (formI 6) && decide (0 < d ∧ d < 16)) = regR (fldD (formI 6)) d from rfl]
    cases zd : regR (fldD (formI 6)) d
    · simp -implicitDefEqProofs (disch := (first | omega | (simp -implicitDefEqProofs only [szs, ne_eq] <;> omega) | fail)) only [go_sem, seval, ↓reduceIte, reduceCtorEq, undefV]; simp
    simp -implicitDefEqProofs (disch := (first | omega | (simp -implicitDefEqProofs only [szs, ne_eq] <;> omega) | fail)) only [go_sem, seval, ↓reduceIte, reduceCtorEq, undefV]
    refine GCall.of (rreg_ok _ _ _ _ _) ?_
    rintro r g ⟨rfl, rfl⟩
    rw [show (decide (a = 0) || fldA (formI 6) && decide (0 < a ∧ a < 16)) = regR (fldA (formI 6)) a from rfl]
    cases za : regR (fldA (formI 6)) a
    · simp -implicitDefEqProofs (disch := (first | omega | (simp -implicitDefEqProofs only [szs, ne_eq] <;> omega) | fail)) only [go_sem, seval, ↓reduceIte, reduceCtorEq, undefV]; simp
    simp -implicitDefEqProofs (disch := (first | omega | (simp -implicitDefEqProofs only [szs, ne_eq] <;> omega) | fail)) only [go_sem, seval, ↓reduceIte, reduceCtorEq, undefV]
    refine GCall.of (rreg_ok _ _ _ _ _) ?_
    rintro r g ⟨rfl, rfl⟩
    rw [show (decide (b = 0) || fldB (formI 6) && decide (0 < b ∧ b < 16)) = regR (fldB (formI 6)) b from rfl]
    cases zb : regR (fldB (formI 6)) b
    · simp -implicitDefEqProofs (disch := (first | omega | (simp -implicitDefEqProofs only [szs, ne_eq] <;> omega) | fail)) only [go_sem, seval, ↓reduceIte, reduceCtorEq, undefV]; simp
    by_cases i0 : imm = 0
    · simp -implicitDefEqProofs (disch := (first | omega | (simp -implicitDefEqProofs only [szs, ne_eq] <;> omega) | fail)) only [go_sem, seval, ↓reduceIte, reduceCtorEq, undefV, i0]; simp
    simp -implicitDefEqProofs (disch := (first | omega | (simp -implicitDefEqProofs only [szs, ne_eq] <;> omega) | fail)) only [go_sem, seval, ↓reduceIte, reduceCtorEq, undefV, i0]
    cases zm : fldM (formI 6)
    · simp -implicitDefEqProofs (disch := (first | omega | (simp -implicitDefEqProofs only [szs, ne_eq] <;> omega) | fail)) only [go_sem, seval]; simp [i0]
    by_cases il : 0 ≤ imm
    rotate_left
    · simp -implicitDefEqProofs (disch := (first | omega | (simp -implicitDefEqProofs only [szs, ne_eq] <;> omega) | fail)) only [go_sem, seval, il]; simp [i0]
    by_cases ih : imm ≤ 65535
    rotate_left
    · simp -implicitDefEqProofs (disch := (first | omega | (simp -implicitDefEqProofs only [szs, ne_eq] <;> omega) | fail)) only [go_sem, seval, il, ih]; simp [i0]
    simp -implicitDefEqProofs (disch := (first | omega | (simp -implicitDefEqProofs only [szs, ne_eq] <;> omega) | fail)) only [go_sem, seval, il, ih]; simp [i0]
  have hwi : wideI op = false := by unfold wideI; simp [n3, n6]
  have hlo : loI op = -32768 := by unfold loI; rw [hwi]; rfl
  have hhi : hiI op = 32767 := by unfold hiI; rw [hwi]; rfl
  by_cases o1 : 1 ≤ op
  rotate_left
  · simp -implicitDefEqProofs (disch := (first | omega | (simp -implicitDefEqProofs only [szs, ne_eq] <;> omega) | fail)) only [go_sem, seval, ↓reduceIte, reduceCtorEq, undefV, o1]; simp [o1]
  by_cases o2 : op ≤ 28
  rotate_left
  · simp -implicitDefEqProofs (disch := (first | omega | (simp -implicitDefEqProofs only [szs, ne_eq] <;> omega) | fail)) only [go_sem, seval, ↓reduceIte, reduceCtorEq, undefV, o1, o2]; simp [o2]
  have o12 : decide (1 ≤ op ∧ op ≤ 28) = true := decide_eq_true ⟨o1, o2⟩
  rw [o12, hlo, hhi]
  simp -implicitDefEqProofs (disch := (first | omega | (simp -implicitDefEqProofs only [szs, ne_eq] <;> omega) | fail)) only [go_sem, seval, ↓reduceIte, reduceCtorEq, undefV, o1, o2]
  refine GCall.of (rreg_ok _ _ _ _ _) ?_
  rintro r g ⟨rfl, rfl⟩
  rw [show (decide (d = 0) || fldD (formI op) && decide (0 < d ∧ d < 16)) = regR (fldD (formI op)) d from rfl]
  cases zd : regR (fldD (formI op)) d
  · simp -implicitDefEqProofs (disch := (first | omega | (simp -implicitDefEqProofs only [szs, ne_eq] <;> omega) | fail)) only [go_sem, seval, ↓reduceIte, reduceCtorEq, undefV]; simp
  simp -implicitDefEqProofs (disch := (first | omega | (simp -implicitDefEqProofs only [szs, ne_eq] <;> omega) | fail)) only [go_sem, seval, ↓reduceIte, reduceCtorEq, undefV]
  refine GCall.of (rreg_ok _ _ _ _ _) ?_
  rintro r g ⟨rfl, rfl⟩
  rw [show (decide (a = 0) || fldA (formI op) && decide (0 < a ∧ a < 16)) = regR (fldA (formI op)) a from rfl]
  cases za : regR (fldA (formI op)) a
  · simp -implicitDefEqProofs (disch := (first | omega | (simp -implicitDefEqProofs only [szs, ne_eq] <;> omega) | fail)) only [go_sem, seval, ↓reduceIte, reduceCtorEq, undefV]; simp
  simp -implicitDefEqProofs (disch := (first | omega | (simp -implicitDefEqProofs only [szs, ne_eq] <;> omega) | fail)) only [go_sem, seval, ↓reduceIte, reduceCtorEq, undefV]
  refine GCall.of (rreg_ok _ _ _ _ _) ?_
  rintro r g ⟨rfl, rfl⟩
  rw [show (decide (b = 0) || fldB (formI op) && decide (0 < b ∧ b < 16)) = regR (fldB (formI op)) b from rfl]
  cases zb : regR (fldB (formI op)) b
  · simp -implicitDefEqProofs (disch := (first | omega | (simp -implicitDefEqProofs only [szs, ne_eq] <;> omega) | fail)) only [go_sem, seval, ↓reduceIte, reduceCtorEq, undefV]; simp
  by_cases i0 : imm = 0
  · simp -implicitDefEqProofs (disch := (first | omega | (simp -implicitDefEqProofs only [szs, ne_eq] <;> omega) | fail)) only [go_sem, seval, ↓reduceIte, reduceCtorEq, undefV, i0]; simp
  simp -implicitDefEqProofs (disch := (first | omega | (simp -implicitDefEqProofs only [szs, ne_eq] <;> omega) | fail)) only [go_sem, seval, ↓reduceIte, reduceCtorEq, undefV, i0]
  cases zm : fldM (formI op)
  · simp -implicitDefEqProofs (disch := (first | omega | (simp -implicitDefEqProofs only [szs, ne_eq] <;> omega) | fail)) only [go_sem, seval]; simp [i0]
  by_cases il : -32768 ≤ imm
  rotate_left
  · simp -implicitDefEqProofs (disch := (first | omega | (simp -implicitDefEqProofs only [szs, ne_eq] <;> omega) | fail)) only [go_sem, seval, il]; simp [i0]
  by_cases ih : imm ≤ 32767
  rotate_left
  · simp -implicitDefEqProofs (disch := (first | omega | (simp -implicitDefEqProofs only [szs, ne_eq] <;> omega) | fail)) only [go_sem, seval, il, ih]; simp [i0]
  simp -implicitDefEqProofs (disch := (first | omega | (simp -implicitDefEqProofs only [szs, ne_eq] <;> omega) | fail)) only [go_sem, seval, il, ih]; simp [i0]
def wordR (o d a b : Nat) (m : Int) : Nat := if formI o = 5 then o + (16 * d + a) * 256 + b * 65536 else o + (16 * d + a) * 256 + (m % 65536).toNat * 65536
set_option maxHeartbeats 40000000 in
theorem rword57_ok {o d a b : Nat} {m : Int} (ho : o < 256) (hd : d < 16) (ha : a < 16) (hb : b < 256) (h : Heap) : SF (Try.prog : MP) 57 [insV o d a b m] h (fun _ => False) (fun _ => False) fun v h' => v = .int .u32 (wordR o d a b m : Nat) := by
  have w0 : IntKind.u32.wrap (o : Int) = o := IntWalk.u32_in _ (by omega)
  obtain ⟨x, hx⟩ : ∃ x : Nat, x = 16 * d + a := ⟨_, rfl⟩
  have w1 : intBin .mul .i64 16 (d : Int) = some (.int .i64 (16 * d : Nat)) := by
    show some (V.int .i64 (IntKind.i64.wrap _)) = _
    rw [IntWalk.i64_in _ (by omega)]; rfl
  have w2 : intBin .add .i64 (16 * d : Nat) (a : Int) = some (.int .i64 (x : Nat)) := by
    show some (V.int .i64 (IntKind.i64.wrap _)) = _
    rw [IntWalk.i64_in _ (by omega), hx]; rfl
  have w3 : IntKind.u32.wrap (x : Int) = x := IntWalk.u32_in _ (by omega)
  obtain ⟨y, hy⟩ : ∃ y : Nat, y = x * 256 := ⟨_, rfl⟩
  have w4 : intBin .mul .u32 (x : Int) 256 = some (.int .u32 (y : Nat)) := by
    show some (V.int .u32 (IntKind.u32.wrap _)) = _
    rw [IntWalk.u32_in _ (by omega), hy]; rfl
  obtain ⟨z, hz⟩ : ∃ z : Nat, z = o + y := ⟨_, rfl⟩
  have w5 : intBin .add .u32 (o : Int) (y : Int) = some (.int .u32 (z : Nat)) := by
    show some (V.int .u32 (IntKind.u32.wrap _)) = _
    rw [IntWalk.u32_in _ (by omega), hz]; rfl
  have w6 : IntKind.u32.wrap (b : Int) = b := IntWalk.u32_in _ (by omega)
  obtain ⟨k, hk⟩ : ∃ k : Nat, k = b * 65536 := ⟨_, rfl⟩
  have w7 : intBin .mul .u32 (b : Int) 65536 = some (.int .u32 (k : Nat)) := by
    show some (V.int .u32 (IntKind.u32.wrap _)) = _
    rw [IntWalk.u32_in _ (by omega), hk]; rfl
  have w8 : intBin .add .u32 (z : Int) (k : Int) = some (.int .u32 (z + k : Nat)) := by
    show some (V.int .u32 (IntKind.u32.wrap _)) = _
    rw [IntWalk.u32_in _ (by omega)]; rfl
  have hm0 := Int.emod_nonneg m (show (65536 : Int) ≠ 0 by decide)
  have hm1 := Int.emod_lt_of_pos m (show (0 : Int) < 65536 by decide)
  obtain ⟨q, hq⟩ : ∃ q : Nat, m % 65536 = q := ⟨(m % 65536).toNat, by omega⟩
  have w9 : intBin .and .i64 m 65535 = some (.int .i64 (q : Int)) := by rw [and_16, hq]
  have w10 : IntKind.u32.wrap (q : Int) = q := IntWalk.u32_in _ (by omega)
  obtain ⟨l, hl⟩ : ∃ l : Nat, l = q * 65536 := ⟨_, rfl⟩
  have w11 : intBin .mul .u32 (q : Int) 65536 = some (.int .u32 (l : Nat)) := by
    show some (V.int .u32 (IntKind.u32.wrap _)) = _
    rw [IntWalk.u32_in _ (by omega), hl]; rfl
  have w12 : intBin .add .u32 (z : Int) (l : Int) = some (.int .u32 (z + l : Nat)) := by
    show some (V.int .u32 (IntKind.u32.wrap _)) = _
    rw [IntWalk.u32_in _ (by omega)]; rfl
  refine SF.go hm Try.func57 ir57_eq ?_
  simp -implicitDefEqProofs (disch := (first | omega | (simp -implicitDefEqProofs only [szs, ne_eq] <;> omega) | fail)) only [go_sem, seval, ↓reduceIte, reduceCtorEq, ir57, undefV, ↓cv48_25, c48_25, ↓cvD, cD, w0, ↓w1, ↓w2, w3, ↓w4, ↓w5]
  refine GCall.of (rform_ok _ _ _ _) ?_
  rintro r g ⟨rfl, rfl⟩
  unfold wordR
  by_cases e5 : formI o = 5
  · rw [if_pos e5]
    simp -implicitDefEqProofs (disch := (first | omega | (simp -implicitDefEqProofs only [szs, ne_eq] <;> omega) | fail)) only [go_sem, seval, ↓reduceIte, reduceCtorEq, undefV, e5, ↓cvD, cD, w6, ↓w7, ↓w8]
    rw [show z + k = o + (16 * d + a) * 256 + b * 65536 by omega]
  · rw [if_neg e5]
    simp -implicitDefEqProofs (disch := (first | omega | (simp -implicitDefEqProofs only [szs, ne_eq] <;> omega) | fail)) only [go_sem, seval, ↓reduceIte, reduceCtorEq, undefV, ↓w9, ↓cvD, cD, w10, ↓w11, ↓w12]
    rw [show z + l = o + (16 * d + a) * 256 + (m % 65536).toNat * 65536 by omega]
end Go.Proofs.Ytmkdbninmimndaa
