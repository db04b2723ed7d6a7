/- Arithmetic, on both sides. -/
import Derived.Test.YtmkdbninmimndaaD9
set_option linter.unusedVariables false
set_option maxRecDepth 100000
namespace Go.Proofs.Ytmkdbninmimndaa
open Go Go.Vm
def alu (op : Nat) (a b : BitVec 32) : Option (BitVec 32) :=
  if op = 8 then some (a + b) else if op = 9 then some (a - b) else if op = 10 then some (a * b) else
  if op = 11 then (if b = 0#32 then none else some (a / b)) else if op = 12 then (if b = 0#32 then none else some (a % b)) else
  if op = 13 then some (a &&& b) else if op = 14 then some (a ||| b) else if op = 15 then some (a ^^^ b) else
  if op = 16 then some (a <<< (b % 32#32).toNat) else some (a >>> (b % 32#32).toNat)
def aluV : Option (BitVec 32) → V
  | some x => .tuple [U x, .bool true]
  | none => .tuple [.int .u32 0, .bool false]
theorem and_31 (b : BitVec 32) : b &&& 31#32 = b % 32#32 := by
  apply BitVec.eq_of_toNat_eq
  rw [BitVec.toNat_and, BitVec.toNat_umod]
  exact Nat.and_two_pow_sub_one_eq_mod b.toNat 5
theorem b_and31 (b : BitVec 32) : intBin .and .u32 (b.toNat : Int) 31 = some (U (b % 32#32)) := by rw [← and_31]; exact b_and b 31#32
theorem b_zero (b : BitVec 32) : intBin .eql .u32 (b.toNat : Int) 0 = some (.bool (b == 0#32)) := b_eql b 0#32
variable {h : Heap} {R W : Set'}
theorem f35_ok (a b : BitVec 32) : SF (Try.prog : MP) 35 [U a, U b] h R W fun v h' => v = U (a + b) ∧ h' = h := by
  refine SF.go hm Try.func35 ir35_eq ?_
  simp -implicitDefEqProofs (disch := (first | omega | fail)) only [go_sem, seval, ↓reduceIte, reduceCtorEq, ir35, ↓b_add]
theorem f36_ok (a b : BitVec 32) : SF (Try.prog : MP) 36 [U a, U b] h R W fun v h' => v = U (a - b) ∧ h' = h := by
  refine SF.go hm Try.func36 ir36_eq ?_
  simp -implicitDefEqProofs (disch := (first | omega | fail)) only [go_sem, seval, ↓reduceIte, reduceCtorEq, ir36, ↓b_sub]
theorem f37_ok (a b : BitVec 32) : SF (Try.prog : MP) 37 [U a, U b] h R W fun v h' => v = U (a * b) ∧ h' = h := by
  refine SF.go hm Try.func37 ir37_eq ?_
  simp -implicitDefEqProofs (disch := (first | omega | fail)) only [go_sem, seval, ↓reduceIte, reduceCtorEq, ir37, ↓b_mul]
theorem f38_ok (a b : BitVec 32) : SF (Try.prog : MP) 38 [U a, U b] h R W fun v h' => v = U (a &&& b) ∧ h' = h := by
  refine SF.go hm Try.func38 ir38_eq ?_
  simp -implicitDefEqProofs (disch := (first | omega | fail)) only [go_sem, seval, ↓reduceIte, reduceCtorEq, ir38, ↓b_and]
theorem f39_ok (a b : BitVec 32) : SF (Try.prog : MP) 39 [U a, U b] h R W fun v h' => v = U (a ||| b) ∧ h' = h := by
  refine SF.go hm Try.func39 ir39_eq ?_
  simp -implicitDefEqProofs (disch := (first | omega | fail)) only [go_sem, seval, ↓reduceIte, reduceCtorEq, ir39, ↓b_or]
theorem f40_ok (a b : BitVec 32) : SF (Try.prog : MP) 40 [U a, U b] h R W fun v h' => v = U (a ^^^ b) ∧ h' = h := by
  refine SF.go hm Try.func40 ir40_eq ?_
  simp -implicitDefEqProofs (disch := (first | omega | fail)) only [go_sem, seval, ↓reduceIte, reduceCtorEq, ir40, ↓b_xor]
theorem f41_ok (a b : BitVec 32) : SF (Try.prog : MP) 41 [U a, U b] h R W fun v h' => v = U (a <<< (b % 32#32).toNat) ∧ h' = h := by
  refine SF.go hm Try.func41 ir41_eq ?_
  simp -implicitDefEqProofs (disch := (first | omega | fail)) only [go_sem, seval, ↓reduceIte, reduceCtorEq, ir41, ↓b_and31, ↓b_shl]
theorem f42_ok (a b : BitVec 32) : SF (Try.prog : MP) 42 [U a, U b] h R W fun v h' => v = U (a >>> (b % 32#32).toNat) ∧ h' = h := by
  refine SF.go hm Try.func42 ir42_eq ?_
  simp -implicitDefEqProofs (disch := (first | omega | fail)) only [go_sem, seval, ↓reduceIte, reduceCtorEq, ir42, ↓b_and31, ↓b_shr]
theorem f43_ok (a b : BitVec 32) : SF (Try.prog : MP) 43 [U a, U b] h R W fun v h' => v = aluV (alu 11 a b) ∧ h' = h := by
  refine SF.go hm Try.func43 ir43_eq ?_
  unfold alu
  by_cases hb : b = 0#32
  · subst hb; simp -implicitDefEqProofs (disch := (first | omega | fail)) only [go_sem, seval, ↓reduceIte, reduceCtorEq, ir43, ↓b_zero]; rfl
  · have hq : (b == 0#32) = false := by simpa using hb
    simp -implicitDefEqProofs (disch := (first | omega | fail)) only [go_sem, seval, ↓reduceIte, reduceCtorEq, ir43, ↓b_zero, hq, ↓b_quo a b hb]; simp [hb, aluV]
theorem f44_ok (a b : BitVec 32) : SF (Try.prog : MP) 44 [U a, U b] h R W fun v h' => v = aluV (alu 12 a b) ∧ h' = h := by
  refine SF.go hm Try.func44 ir44_eq ?_
  unfold alu
  by_cases hb : b = 0#32
  · subst hb; simp -implicitDefEqProofs (disch := (first | omega | fail)) only [go_sem, seval, ↓reduceIte, reduceCtorEq, ir44, ↓b_zero]; rfl
  · have hq : (b == 0#32) = false := by simpa using hb
    simp -implicitDefEqProofs (disch := (first | omega | fail)) only [go_sem, seval, ↓reduceIte, reduceCtorEq, ir44, ↓b_zero, hq, ↓b_rem a b hb]; simp [hb, aluV]
def fnOf (op : Nat) : Nat := if op = 8 then 35 else if op = 9 then 36 else if op = 10 then 37 else if op = 13 then 38 else if op = 14 then 39 else if op = 15 then 40 else if op = 16 then 41 else 42
theorem f34_ok {bx : Nat} {c : Blk} {op : Nat} (hop : op = 8 ∨ op = 9 ∨ op = 10 ∨ op = 13 ∨ op = 14 ∨ op = 15 ∨ op = 16 ∨ op = 17) (hb : h.get bx = some (.cells c 86)) (hs : c.size = 1) (hg : c.get 0 = .func (fnOf op) [] []) (hR : R bx) (a b : BitVec 32) : SF (Try.prog : MP) 34 [U a, U b, .ptr (some (bx, 0))] h R W fun v h' => v = aluV (alu op a b) ∧ h' = h := by
  refine SF.go hm Try.func34 ir34_eq ?_
  rcases hop with rfl | rfl | rfl | rfl | rfl | rfl | rfl | rfl
  · have hg' : c.get 0 = .func 35 [] [] := hg
    simp -implicitDefEqProofs (disch := (first | omega | fail)) only [go_sem, seval, ↓reduceIte, reduceCtorEq, ir34, hb, hs, hg', hR]
    refine GCall.of (f35_ok a b) ?_
    rintro r g ⟨rfl, rfl⟩
    simp -implicitDefEqProofs (disch := (first | omega | fail)) only [go_sem, seval, ↓reduceIte, reduceCtorEq]
    rfl
  · have hg' : c.get 0 = .func 36 [] [] := hg
    simp -implicitDefEqProofs (disch := (first | omega | fail)) only [go_sem, seval, ↓reduceIte, reduceCtorEq, ir34, hb, hs, hg', hR]
    refine GCall.of (f36_ok a b) ?_
    rintro r g ⟨rfl, rfl⟩
    simp -implicitDefEqProofs (disch := (first | omega | fail)) only [go_sem, seval, ↓reduceIte, reduceCtorEq]
    rfl
  · have hg' : c.get 0 = .func 37 [] [] := hg
    simp -implicitDefEqProofs (disch := (first | omega | fail)) only [go_sem, seval, ↓reduceIte, reduceCtorEq, ir34, hb, hs, hg', hR]
    refine GCall.of (f37_ok a b) ?_
    rintro r g ⟨rfl, rfl⟩
    simp -implicitDefEqProofs (disch := (first | omega | fail)) only [go_sem, seval, ↓reduceIte, reduceCtorEq]
    rfl
  · have hg' : c.get 0 = .func 38 [] [] := hg
    simp -implicitDefEqProofs (disch := (first | omega | fail)) only [go_sem, seval, ↓reduceIte, reduceCtorEq, ir34, hb, hs, hg', hR]
    refine GCall.of (f38_ok a b) ?_
    rintro r g ⟨rfl, rfl⟩
    simp -implicitDefEqProofs (disch := (first | omega | fail)) only [go_sem, seval, ↓reduceIte, reduceCtorEq]
    rfl
  · have hg' : c.get 0 = .func 39 [] [] := hg
    simp -implicitDefEqProofs (disch := (first | omega | fail)) only [go_sem, seval, ↓reduceIte, reduceCtorEq, ir34, hb, hs, hg', hR]
    refine GCall.of (f39_ok a b) ?_
    rintro r g ⟨rfl, rfl⟩
    simp -implicitDefEqProofs (disch := (first | omega | fail)) only [go_sem, seval, ↓reduceIte, reduceCtorEq]
    rfl
  · have hg' : c.get 0 = .func 40 [] [] := hg
    simp -implicitDefEqProofs (disch := (first | omega | fail)) only [go_sem, seval, ↓reduceIte, reduceCtorEq, ir34, hb, hs, hg', hR]
    refine GCall.of (f40_ok a b) ?_
    rintro r g ⟨rfl, rfl⟩
    simp -implicitDefEqProofs (disch := (first | omega | fail)) only [go_sem, seval, ↓reduceIte, reduceCtorEq]
    rfl
  · have hg' : c.get 0 = .func 41 [] [] := hg
    simp -implicitDefEqProofs (disch := (first | omega | fail)) only [go_sem, seval, ↓reduceIte, reduceCtorEq, ir34, hb, hs, hg', hR]
    refine GCall.of (f41_ok a b) ?_
    rintro r g ⟨rfl, rfl⟩
    simp -implicitDefEqProofs (disch := (first | omega | fail)) only [go_sem, seval, ↓reduceIte, reduceCtorEq]
    rfl
  · have hg' : c.get 0 = .func 42 [] [] := hg
    simp -implicitDefEqProofs (disch := (first | omega | fail)) only [go_sem, seval, ↓reduceIte, reduceCtorEq, ir34, hb, hs, hg', hR]
    refine GCall.of (f42_ok a b) ?_
    rintro r g ⟨rfl, rfl⟩
    simp -implicitDefEqProofs (disch := (first | omega | fail)) only [go_sem, seval, ↓reduceIte, reduceCtorEq]
    rfl
theorem f33_ok (k : Nat) : SF (Try.prog : MP) 33 [.func k [] []] h (fun _ => False) (fun _ => False) fun v h' => v = .func 34 [] [.ptr (some (h.n, 0))] ∧ h'.n = h.n + 1 ∧ h'.get h.n = some (.cells (Blk.of [.func k [] []]) 86) := by
  refine SF.go hm Try.func33 ir33_eq ?_
  simp -implicitDefEqProofs (disch := (first | omega | fail)) only [go_sem, seval, ↓reduceIte, reduceCtorEq, ir33]
end Go.Proofs.Ytmkdbninmimndaa
