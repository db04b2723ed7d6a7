/- PortsApart: the rounds. -/
import Derived.Test.YtmimialblhlklaaH3
set_option linter.unusedVariables false
set_option linter.unusedSimpArgs false
set_option linter.unusedSimpArgs false
set_option maxRecDepth 100000
set_option linter.unusedVariables false
set_option linter.unusedSimpArgs false
namespace Go.Proofs.Ytmimialblhlklaa
open Go Go.Vm
variable {R W : Set'}
def ir4_m : LC := (.seq (.ops [⟨some 120, Op.move (Operand.tmp 11), none⟩,
    ⟨some 121, Op.move (Operand.tmp 0), none⟩,
    ⟨some 122, Op.call { callee := Callee.builtin Builtin.len, args := #[Operand.tmp 121], argTypes := #[46] }, none⟩,
    ⟨some 123, Op.binOp BinOp.lss 3 (Operand.tmp 120) (Operand.tmp 122) 3, none⟩,
    ⟨some 124, Op.move (Operand.tmp 123), none⟩,
    ⟨some 125, Op.move (Operand.tmp 5), some (124, true)⟩,
    ⟨some 126, Op.move (Operand.tmp 8), some (124, true)⟩,
    ⟨some 127, Op.move (Operand.tmp 0), some (124, true)⟩,
    ⟨some 128, Op.move (Operand.tmp 11), some (124, true)⟩,
    ⟨some 129, Op.indexAddr 46 (Operand.tmp 127) (Operand.tmp 128), some (124, true)⟩,
    ⟨some 130, Op.load 49 (Operand.tmp 129), some (124, true)⟩,
    ⟨some 131, Op.call { callee := Callee.value (Operand.func 18), args := #[Operand.tmp 125, Operand.tmp 126, Operand.tmp 130], argTypes := #[26, 26, 49] }, some (124, true)⟩,
    ⟨some 132, Op.unOp UnOp.not 4 (Operand.tmp 131), some (124, true)⟩,
    ⟨some 133, Op.pick (Operand.tmp 124) (Operand.tmp 132) (Operand.const (Value.bool false)), none⟩])
  (.cond (Operand.tmp 133)
  (.seq (.ops [⟨some 4, Op.assign (Operand.const (Value.bool false)), none⟩])
  .ret)
  .skip))
def ir4_po : LC := (.ops [⟨some 43, Op.move (Operand.tmp 11), none⟩,
    ⟨some 44, Op.binOp BinOp.add 3 (Operand.tmp 43) (Operand.const (Value.int IntKind.i64 1)) 3, none⟩,
    ⟨some 11, Op.assign (Operand.tmp 44), none⟩])
def ir4_c0 : LC := (.seq (.seq (.ops [⟨some 41, Op.move (Operand.tmp 11), none⟩,
    ⟨some 42, Op.binOp BinOp.lss 3 (Operand.tmp 41) (Operand.const (Value.int IntKind.i64 60)) 3, none⟩])
  (.cond (Operand.tmp 42)
  .skip
  (.exit 0)))
  (.seq (.block 1 (.seq (.seq (.ops [⟨some 45, Op.move (Operand.tmp 11), none⟩,
    ⟨some 46, Op.move (Operand.tmp 1), none⟩,
    ⟨some 47, Op.call { callee := Callee.builtin Builtin.len, args := #[Operand.tmp 46], argTypes := #[46] }, none⟩,
    ⟨some 48, Op.binOp BinOp.lss 3 (Operand.tmp 45) (Operand.tmp 47) 3, none⟩])
  (.cond (Operand.tmp 48)
  (.seq (.ops [⟨some 49, Op.move (Operand.tmp 1), none⟩,
    ⟨some 50, Op.move (Operand.tmp 11), none⟩,
    ⟨some 51, Op.indexAddr 46 (Operand.tmp 49) (Operand.tmp 50), none⟩,
    ⟨some 52, Op.load 49 (Operand.tmp 51), none⟩,
    ⟨some 12, Op.alloc 49, none⟩,
    ⟨none, Op.store 49 (Operand.tmp 12) (Operand.tmp 52), none⟩])
  (.seq (.ops [⟨some 54, Op.fieldAddr 49 (Operand.tmp 12) 4, none⟩,
    ⟨some 55, Op.load 36 (Operand.tmp 54), none⟩,
    ⟨some 56, Op.call { callee := Callee.value (Operand.func 16), args := #[Operand.tmp 55], argTypes := #[36] }, none⟩,
    ⟨some 53, Op.move (Operand.tmp 56), none⟩,
    ⟨some 57, Op.extract (Operand.tmp 53) 0, none⟩,
    ⟨some 58, Op.extract (Operand.tmp 53) 1, none⟩,
    ⟨some 13, Op.assign (Operand.tmp 57), none⟩,
    ⟨some 14, Op.assign (Operand.tmp 58), none⟩])
  (.block 2 (.seq (.ops [⟨some 60, Op.fieldAddr 49 (Operand.tmp 12) 0, none⟩,
    ⟨some 61, Op.load 3 (Operand.tmp 60), none⟩,
    ⟨some 62, Op.binOp BinOp.eql 3 (Operand.tmp 61) (Operand.const (Value.int IntKind.i64 1)) 3, none⟩,
    ⟨some 63, Op.move (Operand.tmp 62), none⟩,
    ⟨some 64, Op.fieldAddr 49 (Operand.tmp 12) 1, some (63, true)⟩,
    ⟨some 65, Op.load 3 (Operand.tmp 64), some (63, true)⟩,
    ⟨some 66, Op.binOp BinOp.neq 3 (Operand.tmp 65) (Operand.const (Value.int IntKind.i64 1)) 3, some (63, true)⟩,
    ⟨some 67, Op.pick (Operand.tmp 63) (Operand.tmp 66) (Operand.const (Value.bool false)), none⟩,
    ⟨some 59, Op.assign (Operand.tmp 67), none⟩])
  (.cond (Operand.tmp 59)
  (.ops [⟨some 68, Op.move (Operand.tmp 5), none⟩,
    ⟨some 69, Op.fieldAddr 49 (Operand.tmp 12) 1, none⟩,
    ⟨some 70, Op.load 3 (Operand.tmp 69), none⟩,
    ⟨some 71, Op.fieldAddr 49 (Operand.tmp 12) 3, none⟩,
    ⟨some 72, Op.load 22 (Operand.tmp 71), none⟩,
    ⟨some 73, Op.call { callee := Callee.value (Operand.func 10), args := #[Operand.tmp 68, Operand.tmp 70, Operand.tmp 72], argTypes := #[26, 3, 22] }, none⟩])
  (.seq (.ops [⟨some 75, Op.fieldAddr 49 (Operand.tmp 12) 0, none⟩,
    ⟨some 76, Op.load 3 (Operand.tmp 75), none⟩,
    ⟨some 77, Op.binOp BinOp.eql 3 (Operand.tmp 76) (Operand.const (Value.int IntKind.i64 2)) 3, none⟩,
    ⟨some 78, Op.move (Operand.tmp 77), none⟩,
    ⟨some 79, Op.fieldAddr 49 (Operand.tmp 12) 1, some (78, true)⟩,
    ⟨some 80, Op.load 3 (Operand.tmp 79), some (78, true)⟩,
    ⟨some 81, Op.binOp BinOp.neq 3 (Operand.tmp 80) (Operand.const (Value.int IntKind.i64 1)) 3, some (78, true)⟩,
    ⟨some 82, Op.pick (Operand.tmp 78) (Operand.tmp 81) (Operand.const (Value.bool false)), none⟩,
    ⟨some 74, Op.assign (Operand.tmp 82), none⟩])
  (.cond (Operand.tmp 74)
  (.ops [⟨some 83, Op.move (Operand.tmp 5), none⟩,
    ⟨some 84, Op.fieldAddr 49 (Operand.tmp 12) 1, none⟩,
    ⟨some 85, Op.load 3 (Operand.tmp 84), none⟩,
    ⟨some 86, Op.fieldAddr 49 (Operand.tmp 12) 2, none⟩,
    ⟨some 87, Op.load 3 (Operand.tmp 86), none⟩,
    ⟨some 88, Op.call { callee := Callee.value (Operand.func 17), args := #[Operand.tmp 83, Operand.tmp 85, Operand.tmp 87], argTypes := #[26, 3, 3] }, none⟩])
  (.seq (.ops [⟨some 90, Op.fieldAddr 49 (Operand.tmp 12) 0, none⟩,
    ⟨some 91, Op.load 3 (Operand.tmp 90), none⟩,
    ⟨some 92, Op.binOp BinOp.eql 3 (Operand.tmp 91) (Operand.const (Value.int IntKind.i64 3)) 3, none⟩,
    ⟨some 93, Op.move (Operand.tmp 92), none⟩,
    ⟨some 94, Op.move (Operand.tmp 14), some (93, true)⟩,
    ⟨some 95, Op.unOp UnOp.not 4 (Operand.tmp 94), some (93, true)⟩,
    ⟨some 96, Op.move (Operand.tmp 95), some (93, true)⟩,
    ⟨some 97, Op.move (Operand.tmp 13), some (96, false)⟩,
    ⟨some 98, Op.binOp BinOp.neq 3 (Operand.tmp 97) (Operand.const (Value.int IntKind.i64 1)) 3, some (96, false)⟩,
    ⟨some 99, Op.pick (Operand.tmp 96) (Operand.const (Value.bool true)) (Operand.tmp 98), some (93, true)⟩,
    ⟨some 100, Op.pick (Operand.tmp 93) (Operand.tmp 99) (Operand.const (Value.bool false)), none⟩,
    ⟨some 89, Op.assign (Operand.tmp 100), none⟩])
  (.cond (Operand.tmp 89)
  (.ops [⟨some 101, Op.move (Operand.tmp 5), none⟩,
    ⟨some 102, Op.fieldAddr 49 (Operand.tmp 12) 4, none⟩,
    ⟨some 103, Op.load 36 (Operand.tmp 102), none⟩,
    ⟨some 104, Op.call { callee := Callee.value (Operand.func 12), args := #[Operand.tmp 101, Operand.tmp 103], argTypes := #[26, 36] }, none⟩])
  (.seq (.ops [⟨some 106, Op.fieldAddr 49 (Operand.tmp 12) 0, none⟩,
    ⟨some 107, Op.load 3 (Operand.tmp 106), none⟩,
    ⟨some 108, Op.binOp BinOp.eql 3 (Operand.tmp 107) (Operand.const (Value.int IntKind.i64 4)) 3, none⟩,
    ⟨some 109, Op.move (Operand.tmp 108), none⟩,
    ⟨some 110, Op.fieldAddr 49 (Operand.tmp 12) 1, some (109, true)⟩,
    ⟨some 111, Op.load 3 (Operand.tmp 110), some (109, true)⟩,
    ⟨some 112, Op.binOp BinOp.neq 3 (Operand.tmp 111) (Operand.const (Value.int IntKind.i64 1)) 3, some (109, true)⟩,
    ⟨some 113, Op.pick (Operand.tmp 109) (Operand.tmp 112) (Operand.const (Value.bool false)), none⟩,
    ⟨some 105, Op.assign (Operand.tmp 113), none⟩])
  (.cond (Operand.tmp 105)
  (.ops [⟨some 114, Op.move (Operand.tmp 5), none⟩,
    ⟨some 115, Op.fieldAddr 49 (Operand.tmp 12) 1, none⟩,
    ⟨some 116, Op.load 3 (Operand.tmp 115), none⟩,
    ⟨some 117, Op.fieldAddr 49 (Operand.tmp 12) 2, none⟩,
    ⟨some 118, Op.load 3 (Operand.tmp 117), none⟩,
    ⟨some 119, Op.call { callee := Callee.value (Operand.func 14), args := #[Operand.tmp 114, Operand.tmp 116, Operand.tmp 118], argTypes := #[26, 3, 3] }, none⟩])
  .skip)))))))))))
  .skip))
  ir4_m))
  ir4_po))
theorem ir4_c0_eq : ir4_l0 = ir4_c0 := rfl
def Same1 (hb g : Heap) (p q : Nat) : Prop := ∃ Mp Mq S S', Two hb g p q [4, 4, 4] Mp Mq S S' ∧ S 1 = S' 1
set_option maxHeartbeats 4000000 in
theorem apart_m {Q : Ex → Fr → Heap → Prop} {hb g : Heap} {p q i m0 : Nat} {v0 v1 : V} {tr : Tr V} (hR : ∀ b, R b) (hW : ∀ b, hb.n ≤ b → W b) (hv0 : StepsV hb v0 m0) (hi : i ≤ 1000)
    (t0 : tr.get 0 = some v0) (t1 : tr.get 1 = some v1) (t5 : tr.get 5 = some (.ptr (some (p, 0)))) (t8 : tr.get 8 = some (.ptr (some (q, 0)))) (t11 : tr.get 11 = some (.int .i64 (i : Int))) (hs : Same1 hb g p q)
    (hk : ∀ tr g, tr.get 0 = some v0 → tr.get 1 = some v1 → tr.get 5 = some (.ptr (some (p, 0))) → tr.get 8 = some (.ptr (some (q, 0))) → tr.get 11 = some (.int .i64 ((i + 1 : Nat) : Int)) → Same1 hb g p q → Q .norm ⟨⟨134, tr⟩, []⟩ g) :
    GO ⟨Try.prog, true⟩ R W none Q [.code ir4_m, .blk 1, .code ir4_po] ⟨⟨134, tr⟩, []⟩ g := by
  have hl := hv0.len
  have hi0 : (0 : Int) ≤ (i : Int) := by omega
  obtain ⟨Mp, Mq, S, S', t2, h1⟩ := id hs
  by_cases him : i < m0
  · have hz : (i : Int) < (m0 : Int) := by omega
    rcases hv0.2 with ⟨h0, _⟩ | ⟨b, o, cap, c, ce, rfl, hb1, hs1, hc⟩
    · omega
    obtain ⟨kd, a, n, vf, vp, L, l, c0, c1, c2, c3, c4, hst⟩ := hc i him
    have hbg := (t2.old b (Heap.lt_of_get hb1)).trans hb1
    have hRb := hR b
    have hfo := LRs.one hst.1
    have hpo := hst.2.1.one
    have hsz : o + i * 5 + 5 ≤ c.size := by omega
    simp -implicitDefEqProofs (disch := (first | omega | (simp -implicitDefEqProofs only [szs, ne_eq] <;> omega) | fail)) only [go_sem, Nat.reduceAdd, Nat.reduceSub, Nat.reduceMul, Nat.reduceLT, Nat.reduceMod, Nat.reduceDiv, Nat.reduceEqDiff, Nat.reduceBEq, Nat.reduceLeDiff, ↓reduceIte, reduceCtorEq, Int.reduceAdd, Int.reduceSub, Int.reduceLT, Int.reduceLE, Int.reduceBEq, Int.reduceEq, Int.reduceToNat, ir4_m, undefV, t0, t1, t5, t8, t11, ↓hl, hz, hi0, hbg, hRb, hsz, c0, c1, c2, c3, c4, ↓hfo, ↓hpo]
    refine GCall.of (alike_ok t2 h1 hst hR hW) ?_
    rintro r g2 ⟨rfl, M1, M2, S2, S2', t3, h2⟩
    simp -implicitDefEqProofs (disch := (first | omega | (simp -implicitDefEqProofs only [szs, ne_eq] <;> omega) | fail)) only [go_sem, Nat.reduceAdd, Nat.reduceSub, Nat.reduceMul, Nat.reduceLT, Nat.reduceMod, Nat.reduceDiv, Nat.reduceEqDiff, Nat.reduceBEq, Nat.reduceLeDiff, ↓reduceIte, reduceCtorEq, Int.reduceAdd, Int.reduceSub, Int.reduceLT, Int.reduceLE, Int.reduceBEq, Int.reduceEq, Int.reduceToNat, ir4_po, undefV, t0, t1, t5, t8, t11]
    exact hk _ g2 (by simp -implicitDefEqProofs (disch := (first | omega | (simp -implicitDefEqProofs only [szs, ne_eq] <;> omega) | fail)) only [go_sem, Nat.reduceAdd, Nat.reduceSub, Nat.reduceMul, Nat.reduceLT, Nat.reduceMod, Nat.reduceDiv, Nat.reduceEqDiff, Nat.reduceBEq, Nat.reduceLeDiff, ↓reduceIte, reduceCtorEq, Int.reduceAdd, Int.reduceSub, Int.reduceLT, Int.reduceLE, Int.reduceBEq, Int.reduceEq, Int.reduceToNat, t0]) (by simp -implicitDefEqProofs (disch := (first | omega | (simp -implicitDefEqProofs only [szs, ne_eq] <;> omega) | fail)) only [go_sem, Nat.reduceAdd, Nat.reduceSub, Nat.reduceMul, Nat.reduceLT, Nat.reduceMod, Nat.reduceDiv, Nat.reduceEqDiff, Nat.reduceBEq, Nat.reduceLeDiff, ↓reduceIte, reduceCtorEq, Int.reduceAdd, Int.reduceSub, Int.reduceLT, Int.reduceLE, Int.reduceBEq, Int.reduceEq, Int.reduceToNat, t1]) (by simp -implicitDefEqProofs (disch := (first | omega | (simp -implicitDefEqProofs only [szs, ne_eq] <;> omega) | fail)) only [go_sem, Nat.reduceAdd, Nat.reduceSub, Nat.reduceMul, Nat.reduceLT, Nat.reduceMod, Nat.reduceDiv, Nat.reduceEqDiff, Nat.reduceBEq, Nat.reduceLeDiff, ↓reduceIte, reduceCtorEq, Int.reduceAdd, Int.reduceSub, Int.reduceLT, Int.reduceLE, Int.reduceBEq, Int.reduceEq, Int.reduceToNat, t5]) (by simp -implicitDefEqProofs (disch := (first | omega | (simp -implicitDefEqProofs only [szs, ne_eq] <;> omega) | fail)) only [go_sem, Nat.reduceAdd, Nat.reduceSub, Nat.reduceMul, Nat.reduceLT, Nat.reduceMod, Nat.reduceDiv, Nat.reduceEqDiff, Nat.reduceBEq, Nat.reduceLeDiff, ↓reduceIte, reduceCtorEq, Int.reduceAdd, Int.reduceSub, Int.reduceLT, Int.reduceLE, Int.reduceBEq, Int.reduceEq, Int.reduceToNat, t8]) (by simp -implicitDefEqProofs (disch := (first | omega | (simp -implicitDefEqProofs only [szs, ne_eq] <;> omega) | fail)) only [go_sem, Nat.reduceAdd, Nat.reduceSub, Nat.reduceMul, Nat.reduceLT, Nat.reduceMod, Nat.reduceDiv, Nat.reduceEqDiff, Nat.reduceBEq, Nat.reduceLeDiff, ↓reduceIte, reduceCtorEq, Int.reduceAdd, Int.reduceSub, Int.reduceLT, Int.reduceLE, Int.reduceBEq, Int.reduceEq, Int.reduceToNat]; try simp) ⟨M1, M2, S2, S2', t3, h2⟩
  · have hz : ¬ (i : Int) < (m0 : Int) := by omega
    simp -implicitDefEqProofs (disch := (first | omega | (simp -implicitDefEqProofs only [szs, ne_eq] <;> omega) | fail)) only [go_sem, Nat.reduceAdd, Nat.reduceSub, Nat.reduceMul, Nat.reduceLT, Nat.reduceMod, Nat.reduceDiv, Nat.reduceEqDiff, Nat.reduceBEq, Nat.reduceLeDiff, ↓reduceIte, reduceCtorEq, Int.reduceAdd, Int.reduceSub, Int.reduceLT, Int.reduceLE, Int.reduceBEq, Int.reduceEq, Int.reduceToNat, ir4_m, ir4_po, undefV, t0, t1, t5, t8, t11, ↓hl, hz]
    exact hk _ g (by simp -implicitDefEqProofs (disch := (first | omega | (simp -implicitDefEqProofs only [szs, ne_eq] <;> omega) | fail)) only [go_sem, Nat.reduceAdd, Nat.reduceSub, Nat.reduceMul, Nat.reduceLT, Nat.reduceMod, Nat.reduceDiv, Nat.reduceEqDiff, Nat.reduceBEq, Nat.reduceLeDiff, ↓reduceIte, reduceCtorEq, Int.reduceAdd, Int.reduceSub, Int.reduceLT, Int.reduceLE, Int.reduceBEq, Int.reduceEq, Int.reduceToNat, t0]) (by simp -implicitDefEqProofs (disch := (first | omega | (simp -implicitDefEqProofs only [szs, ne_eq] <;> omega) | fail)) only [go_sem, Nat.reduceAdd, Nat.reduceSub, Nat.reduceMul, Nat.reduceLT, Nat.reduceMod, Nat.reduceDiv, Nat.reduceEqDiff, Nat.reduceBEq, Nat.reduceLeDiff, ↓reduceIte, reduceCtorEq, Int.reduceAdd, Int.reduceSub, Int.reduceLT, Int.reduceLE, Int.reduceBEq, Int.reduceEq, Int.reduceToNat, t1]) (by simp -implicitDefEqProofs (disch := (first | omega | (simp -implicitDefEqProofs only [szs, ne_eq] <;> omega) | fail)) only [go_sem, Nat.reduceAdd, Nat.reduceSub, Nat.reduceMul, Nat.reduceLT, Nat.reduceMod, Nat.reduceDiv, Nat.reduceEqDiff, Nat.reduceBEq, Nat.reduceLeDiff, ↓reduceIte, reduceCtorEq, Int.reduceAdd, Int.reduceSub, Int.reduceLT, Int.reduceLE, Int.reduceBEq, Int.reduceEq, Int.reduceToNat, t5]) (by simp -implicitDefEqProofs (disch := (first | omega | (simp -implicitDefEqProofs only [szs, ne_eq] <;> omega) | fail)) only [go_sem, Nat.reduceAdd, Nat.reduceSub, Nat.reduceMul, Nat.reduceLT, Nat.reduceMod, Nat.reduceDiv, Nat.reduceEqDiff, Nat.reduceBEq, Nat.reduceLeDiff, ↓reduceIte, reduceCtorEq, Int.reduceAdd, Int.reduceSub, Int.reduceLT, Int.reduceLE, Int.reduceBEq, Int.reduceEq, Int.reduceToNat, t8]) (by simp -implicitDefEqProofs (disch := (first | omega | (simp -implicitDefEqProofs only [szs, ne_eq] <;> omega) | fail)) only [go_sem, Nat.reduceAdd, Nat.reduceSub, Nat.reduceMul, Nat.reduceLT, Nat.reduceMod, Nat.reduceDiv, Nat.reduceEqDiff, Nat.reduceBEq, Nat.reduceLeDiff, ↓reduceIte, reduceCtorEq, Int.reduceAdd, Int.reduceSub, Int.reduceLT, Int.reduceLE, Int.reduceBEq, Int.reduceEq, Int.reduceToNat]; try simp) hs
end Go.Proofs.Ytmimialblhlklaa
