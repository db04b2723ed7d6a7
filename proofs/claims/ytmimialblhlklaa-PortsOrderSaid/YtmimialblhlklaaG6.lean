/- PortsOrder: the rounds. -/
import Derived.Test.YtmimialblhlklaaG5
set_option linter.unusedVariables false
set_option linter.unusedSimpArgs false
set_option linter.unusedSimpArgs false
set_option maxRecDepth 100000
set_option linter.unusedVariables false
set_option linter.unusedSimpArgs false
namespace Go.Proofs.Ytmimialblhlklaa
open Go Go.Vm
def ir3_p2 : LC := (.seq (.ops [⟨some 102, Op.move (Operand.tmp 14), none⟩,
    ⟨some 103, Op.move (Operand.tmp 2), none⟩,
    ⟨some 104, Op.call { callee := Callee.builtin Builtin.len, args := #[Operand.tmp 103], argTypes := #[24] }, none⟩,
    ⟨some 105, Op.binOp BinOp.lss 3 (Operand.tmp 102) (Operand.tmp 104) 3, none⟩,
    ⟨some 106, Op.move (Operand.tmp 105), none⟩,
    ⟨some 107, Op.move (Operand.tmp 2), some (106, true)⟩,
    ⟨some 108, Op.move (Operand.tmp 14), some (106, true)⟩,
    ⟨some 109, Op.indexAddr 24 (Operand.tmp 107) (Operand.tmp 108), some (106, true)⟩,
    ⟨some 110, Op.load 4 (Operand.tmp 109), some (106, true)⟩,
    ⟨some 111, Op.pick (Operand.tmp 106) (Operand.tmp 110) (Operand.const (Value.bool false)), none⟩])
  (.cond (Operand.tmp 111)
  (.seq (.ops [⟨some 113, Op.move (Operand.tmp 7), none⟩,
    ⟨some 114, Op.call { callee := Callee.value (Operand.func 14), args := #[Operand.tmp 113, Operand.const (Value.int IntKind.i64 0), Operand.const (Value.int IntKind.i64 0)], argTypes := #[26, 3, 3] }, none⟩,
    ⟨some 112, Op.move (Operand.tmp 114), none⟩,
    ⟨some 115, Op.extract (Operand.tmp 112) 0, none⟩,
    ⟨some 116, Op.extract (Operand.tmp 112) 1, none⟩,
    ⟨some 17, Op.assign (Operand.tmp 115), none⟩,
    ⟨some 18, Op.assign (Operand.tmp 116), none⟩])
  (.seq (.ops [⟨some 117, Op.move (Operand.tmp 18), none⟩,
    ⟨some 118, Op.call { callee := Callee.value (Operand.func 11), args := #[Operand.tmp 117], argTypes := #[31] }, none⟩,
    ⟨some 119, Op.binOp BinOp.eql 3 (Operand.tmp 118) (Operand.const (Value.int IntKind.i64 0)) 3, none⟩])
  (.cond (Operand.tmp 119)
  (.ops [⟨some 120, Op.move (Operand.tmp 13), none⟩,
    ⟨some 121, Op.move (Operand.tmp 17), none⟩,
    ⟨some 122, Op.convert 36 9 (Operand.tmp 121), none⟩,
    ⟨some 123, Op.buildSlice 35 1 #[(0, Operand.tmp 122)], none⟩,
    ⟨some 124, Op.call { callee := Callee.builtin Builtin.append, args := #[Operand.tmp 120, Operand.tmp 123], argTypes := #[35, 35] }, none⟩,
    ⟨some 13, Op.assign (Operand.tmp 124), none⟩])
  .skip)))
  .skip))
def ir3_p1 : LC := (.seq (.seq (.ops [⟨some 94, Op.move (Operand.tmp 7), none⟩,
    ⟨some 95, Op.call { callee := Callee.value (Operand.func 13), args := #[Operand.tmp 94, Operand.const (Value.int IntKind.i64 0), Operand.const (Value.int IntKind.i64 0)], argTypes := #[26, 3, 3] }, none⟩,
    ⟨some 96, Op.binOp BinOp.gtr 3 (Operand.tmp 95) (Operand.const (Value.int IntKind.i64 8)) 3, none⟩,
    ⟨some 97, Op.move (Operand.tmp 96), none⟩,
    ⟨some 98, Op.move (Operand.tmp 15), some (97, false)⟩,
    ⟨some 99, Op.call { callee := Callee.builtin Builtin.len, args := #[Operand.tmp 98], argTypes := #[37] }, some (97, false)⟩,
    ⟨some 100, Op.binOp BinOp.gtr 3 (Operand.tmp 99) (Operand.const (Value.int IntKind.i64 1)) 3, some (97, false)⟩,
    ⟨some 101, Op.pick (Operand.tmp 97) (Operand.const (Value.bool true)) (Operand.tmp 100), none⟩])
  (.cond (Operand.tmp 101)
  (.seq (.ops [⟨some 6, Op.assign (Operand.const (Value.bool false)), none⟩])
  .ret)
  .skip))
  ir3_p2)
def ir3_p3 : LC := (.seq (.seq (.ops [⟨some 71, Op.move (Operand.tmp 16), none⟩,
    ⟨some 72, Op.call { callee := Callee.value (Operand.func 11), args := #[Operand.tmp 71], argTypes := #[31] }, none⟩,
    ⟨some 73, Op.binOp BinOp.eql 3 (Operand.tmp 72) (Operand.const (Value.int IntKind.i64 0)) 3, none⟩,
    ⟨some 74, Op.move (Operand.tmp 73), none⟩,
    ⟨some 75, Op.move (Operand.tmp 15), some (74, true)⟩,
    ⟨some 76, Op.call { callee := Callee.builtin Builtin.len, args := #[Operand.tmp 75], argTypes := #[37] }, some (74, true)⟩,
    ⟨some 77, Op.binOp BinOp.eql 3 (Operand.tmp 76) (Operand.const (Value.int IntKind.i64 1)) 3, some (74, true)⟩,
    ⟨some 78, Op.pick (Operand.tmp 74) (Operand.tmp 77) (Operand.const (Value.bool false)), none⟩,
    ⟨some 79, Op.move (Operand.tmp 78), none⟩,
    ⟨some 80, Op.move (Operand.tmp 15), some (79, true)⟩,
    ⟨some 81, Op.indexAddr 37 (Operand.tmp 80) (Operand.const (Value.int IntKind.i64 0)), some (79, true)⟩,
    ⟨some 82, Op.fieldAddr 41 (Operand.tmp 81) 1, some (79, true)⟩,
    ⟨some 83, Op.load 4 (Operand.tmp 82), some (79, true)⟩,
    ⟨some 84, Op.unOp UnOp.not 4 (Operand.tmp 83), some (79, true)⟩,
    ⟨some 85, Op.pick (Operand.tmp 79) (Operand.tmp 84) (Operand.const (Value.bool false)), none⟩])
  (.cond (Operand.tmp 85)
  (.ops [⟨some 86, Op.move (Operand.tmp 12), none⟩,
    ⟨some 87, Op.move (Operand.tmp 1), none⟩,
    ⟨some 88, Op.move (Operand.tmp 14), none⟩,
    ⟨some 89, Op.indexAddr 23 (Operand.tmp 87) (Operand.tmp 88), none⟩,
    ⟨some 90, Op.load 36 (Operand.tmp 89), none⟩,
    ⟨some 91, Op.convert 36 9 (Operand.tmp 90), none⟩,
    ⟨some 92, Op.buildSlice 35 1 #[(0, Operand.tmp 91)], none⟩,
    ⟨some 93, Op.call { callee := Callee.builtin Builtin.append, args := #[Operand.tmp 86, Operand.tmp 92], argTypes := #[35, 35] }, none⟩,
    ⟨some 12, Op.assign (Operand.tmp 93), none⟩])
  .skip))
  ir3_p1)
def ir3_po : LC := (.ops [⟨some 54, Op.move (Operand.tmp 14), none⟩,
    ⟨some 55, Op.binOp BinOp.add 3 (Operand.tmp 54) (Operand.const (Value.int IntKind.i64 1)) 3, none⟩,
    ⟨some 14, Op.assign (Operand.tmp 55), none⟩])
def ir3_c0 : LC := (.seq (.seq (.ops [⟨some 50, Op.move (Operand.tmp 14), none⟩,
    ⟨some 51, Op.move (Operand.tmp 1), none⟩,
    ⟨some 52, Op.call { callee := Callee.builtin Builtin.len, args := #[Operand.tmp 51], argTypes := #[23] }, none⟩,
    ⟨some 53, Op.binOp BinOp.lss 3 (Operand.tmp 50) (Operand.tmp 52) 3, none⟩])
  (.cond (Operand.tmp 53)
  .skip
  (.exit 0)))
  (.seq (.block 1 (.seq (.seq (.ops [⟨some 56, Op.move (Operand.tmp 1), none⟩,
    ⟨some 57, Op.move (Operand.tmp 14), none⟩,
    ⟨some 58, Op.indexAddr 23 (Operand.tmp 56) (Operand.tmp 57), none⟩,
    ⟨some 59, Op.load 36 (Operand.tmp 58), none⟩,
    ⟨some 60, Op.call { callee := Callee.builtin Builtin.len, args := #[Operand.tmp 59], argTypes := #[36] }, none⟩,
    ⟨some 61, Op.binOp BinOp.gtr 3 (Operand.tmp 60) (Operand.const (Value.int IntKind.i64 100)) 3, none⟩])
  (.cond (Operand.tmp 61)
  (.exit 1)
  .skip))
  (.seq (.ops [⟨some 63, Op.move (Operand.tmp 7), none⟩,
    ⟨some 64, Op.move (Operand.tmp 1), none⟩,
    ⟨some 65, Op.move (Operand.tmp 14), none⟩,
    ⟨some 66, Op.indexAddr 23 (Operand.tmp 64) (Operand.tmp 65), none⟩,
    ⟨some 67, Op.load 36 (Operand.tmp 66), none⟩,
    ⟨some 68, Op.call { callee := Callee.value (Operand.func 12), args := #[Operand.tmp 63, Operand.tmp 67], argTypes := #[26, 36] }, none⟩,
    ⟨some 62, Op.move (Operand.tmp 68), none⟩,
    ⟨some 69, Op.extract (Operand.tmp 62) 0, none⟩,
    ⟨some 70, Op.extract (Operand.tmp 62) 1, none⟩,
    ⟨some 15, Op.assign (Operand.tmp 69), none⟩,
    ⟨some 16, Op.assign (Operand.tmp 70), none⟩])
  ir3_p3)))
  ir3_po))
theorem ir3_c0_eq : ir3_l0 = ir3_c0 := rfl
def OS (hb g : Heap) (pp : Nat) (v12 v13 : V) (c : Nat) : Prop := ∃ M X came got, PX g M pp [1] (one X) ∧ (∀ k, M k → hb.n ≤ k) ∧ OwnS 1 hb.n g v12 came.length (strV came) 9 ∧ OwnS 1 hb.n g v13 got.length (strV got) 9 ∧ Dis v12 v13 ∧ ¬ M (sblk v12) ∧ ¬ M (sblk v13) ∧ came = got ++ X.ring.map strB ∧ came.length ≤ c ∧ hb.n ≤ g.n ∧ ∀ k, k < hb.n → g.get k = hb.get k
theorem strV_snoc (l : List ByteArray) (s : ByteArray) : strV (l ++ [s]) = strV l ++ [.str s] := by unfold strV; rw [List.map_append]; rfl
variable {R W : Set'}
theorem OS.call {hb g g' : Heap} {pp : Nat} {v12 v13 : V} {M : Set'} {S : AT} {came got : List ByteArray} (h0 : 0 < hb.n) (hM : ∀ k, M k → hb.n ≤ k) (h12 : OwnS 1 hb.n g v12 came.length (strV came) 9) (h13 : OwnS 1 hb.n g v13 got.length (strV got) 9) (n12 : ¬ M (sblk v12)) (n13 : ¬ M (sblk v13)) (hn : hb.n ≤ g.n) (hk : ∀ k, k < hb.n → g.get k = hb.get k) (hq : PXQ g g' M pp [1] S) : ∃ M', PX g' M' pp [1] S ∧ (∀ k, M' k → hb.n ≤ k) ∧ OwnS 1 hb.n g' v12 came.length (strV came) 9 ∧ OwnS 1 hb.n g' v13 got.length (strV got) 9 ∧ ¬ M' (sblk v12) ∧ ¬ M' (sblk v13) ∧ hb.n ≤ g'.n ∧ ∀ k, k < hb.n → g'.get k = hb.get k := by
  obtain ⟨hc, M', hx, hm⟩ := hq
  have hcn := hc.n
  refine ⟨M', hx, fun k h => (hm k h).elim (hM k) fun h => by omega, h12.keep fun b c h1 _ => hc.cells h1 (by decide), h13.keep fun b c h1 _ => hc.cells h1 (by decide), fun h => ?_, fun h => ?_, by omega, fun k h => by rw [hc.k k (by omega) fun h2 => by have := hM k h2.1; omega]; exact hk k h⟩
  · rcases hm _ h with h | h
    · exact n12 h
    · rcases h12.sblk with h1 | h1 <;> omega
  · rcases hm _ h with h | h
    · exact n13 h
    · rcases h13.sblk with h1 | h1 <;> omega
set_option maxHeartbeats 4000000 in
theorem order_p2 {Q : Ex → Fr → Heap → Prop} {hb g : Heap} {pp i c : Nat} {v1 v2 v12 v13 : V} {tr : Tr V} {S2 : Set'} {bs : List Bool} (h0 : 0 < hb.n) (hR : ∀ b, R b) (hW : ∀ b, hb.n ≤ b → W b) (hc : c ≤ 1000) (hv2 : LR hb S2 v2 (bs.map .bool)) (hi : i ≤ 1000)
    (t1 : tr.get 1 = some v1) (t2 : tr.get 2 = some v2) (t7 : tr.get 7 = some (.ptr (some (pp, 0)))) (t12 : tr.get 12 = some v12) (t13 : tr.get 13 = some v13) (t14 : tr.get 14 = some (.int .i64 (i : Int))) (hs : OS hb g pp v12 v13 c)
    (hk : ∀ tr g v12 v13, tr.get 1 = some v1 → tr.get 2 = some v2 → tr.get 7 = some (.ptr (some (pp, 0))) → tr.get 12 = some v12 → tr.get 13 = some v13 → tr.get 14 = some (.int .i64 ((i + 1 : Nat) : Int)) → OS hb g pp v12 v13 c → Q .norm ⟨⟨163, tr⟩, []⟩ g) :
    GO ⟨Try.prog, true⟩ R W none Q [.code ir3_p2, .blk 1, .code ir3_po] ⟨⟨163, tr⟩, []⟩ g := by
  obtain ⟨M, X, came, got, hx, hM, h12, h13, hd, n12, n13, hcm, hcl, hn, hold⟩ := id hs
  have hl2 := hv2.lenV Try.underlying24
  rw [List.length_map] at hl2
  have hi0 : (0 : Int) ≤ (i : Int) := by omega
  by_cases hib : i < bs.length
  · have hz : (i : Int) < (bs.length : Int) := by omega
    obtain ⟨b, o, cap, ex, cc, ce, rfl, _, hb1, hb2, hb3⟩ := (hv2.old hold).get (i := i) (by simpa using hib)
    rw [List.length_map] at hb2 t2 hl2
    have hb3' : cc.get (o + i) = .bool bs[i] := by rw [hb3]; simp [hib]
    have hRb := hR b
    cases hbi : bs[i]
    · rw [hbi] at hb3'
      simp -implicitDefEqProofs (disch := (first | omega | (simp -implicitDefEqProofs only [szs, ne_eq] <;> omega) | fail)) only [go_sem, Nat.reduceAdd, Nat.reduceSub, Nat.reduceMul, Nat.reduceLT, Nat.reduceMod, Nat.reduceDiv, Nat.reduceEqDiff, Nat.reduceBEq, Nat.reduceLeDiff, ↓reduceIte, reduceCtorEq, Int.reduceAdd, Int.reduceSub, Int.reduceLT, Int.reduceLE, Int.reduceBEq, Int.reduceEq, Int.reduceToNat, ir3_p2, ir3_po, undefV, t1, t2, t7, t12, t13, t14, ↓hl2, hz, hi0, hb1, hb2, hb3', hRb]
      exact hk _ g v12 v13 (by simp -implicitDefEqProofs (disch := (first | omega | (simp -implicitDefEqProofs only [szs, ne_eq] <;> omega) | fail)) only [go_sem, Nat.reduceAdd, Nat.reduceSub, Nat.reduceMul, Nat.reduceLT, Nat.reduceMod, Nat.reduceDiv, Nat.reduceEqDiff, Nat.reduceBEq, Nat.reduceLeDiff, ↓reduceIte, reduceCtorEq, Int.reduceAdd, Int.reduceSub, Int.reduceLT, Int.reduceLE, Int.reduceBEq, Int.reduceEq, Int.reduceToNat, t1]) (by simp -implicitDefEqProofs (disch := (first | omega | (simp -implicitDefEqProofs only [szs, ne_eq] <;> omega) | fail)) only [go_sem, Nat.reduceAdd, Nat.reduceSub, Nat.reduceMul, Nat.reduceLT, Nat.reduceMod, Nat.reduceDiv, Nat.reduceEqDiff, Nat.reduceBEq, Nat.reduceLeDiff, ↓reduceIte, reduceCtorEq, Int.reduceAdd, Int.reduceSub, Int.reduceLT, Int.reduceLE, Int.reduceBEq, Int.reduceEq, Int.reduceToNat, t2, List.length_map]) (by simp -implicitDefEqProofs (disch := (first | omega | (simp -implicitDefEqProofs only [szs, ne_eq] <;> omega) | fail)) only [go_sem, Nat.reduceAdd, Nat.reduceSub, Nat.reduceMul, Nat.reduceLT, Nat.reduceMod, Nat.reduceDiv, Nat.reduceEqDiff, Nat.reduceBEq, Nat.reduceLeDiff, ↓reduceIte, reduceCtorEq, Int.reduceAdd, Int.reduceSub, Int.reduceLT, Int.reduceLE, Int.reduceBEq, Int.reduceEq, Int.reduceToNat, t7]) (by simp -implicitDefEqProofs (disch := (first | omega | (simp -implicitDefEqProofs only [szs, ne_eq] <;> omega) | fail)) only [go_sem, Nat.reduceAdd, Nat.reduceSub, Nat.reduceMul, Nat.reduceLT, Nat.reduceMod, Nat.reduceDiv, Nat.reduceEqDiff, Nat.reduceBEq, Nat.reduceLeDiff, ↓reduceIte, reduceCtorEq, Int.reduceAdd, Int.reduceSub, Int.reduceLT, Int.reduceLE, Int.reduceBEq, Int.reduceEq, Int.reduceToNat, t12]) (by simp -implicitDefEqProofs (disch := (first | omega | (simp -implicitDefEqProofs only [szs, ne_eq] <;> omega) | fail)) only [go_sem, Nat.reduceAdd, Nat.reduceSub, Nat.reduceMul, Nat.reduceLT, Nat.reduceMod, Nat.reduceDiv, Nat.reduceEqDiff, Nat.reduceBEq, Nat.reduceLeDiff, ↓reduceIte, reduceCtorEq, Int.reduceAdd, Int.reduceSub, Int.reduceLT, Int.reduceLE, Int.reduceBEq, Int.reduceEq, Int.reduceToNat, t13]) (by simp -implicitDefEqProofs (disch := (first | omega | (simp -implicitDefEqProofs only [szs, ne_eq] <;> omega) | fail)) only [go_sem, Nat.reduceAdd, Nat.reduceSub, Nat.reduceMul, Nat.reduceLT, Nat.reduceMod, Nat.reduceDiv, Nat.reduceEqDiff, Nat.reduceBEq, Nat.reduceLeDiff, ↓reduceIte, reduceCtorEq, Int.reduceAdd, Int.reduceSub, Int.reduceLT, Int.reduceLE, Int.reduceBEq, Int.reduceEq, Int.reduceToNat]; try simp) hs
    · rw [hbi] at hb3'
      simp -implicitDefEqProofs (disch := (first | omega | (simp -implicitDefEqProofs only [szs, ne_eq] <;> omega) | fail)) only [go_sem, Nat.reduceAdd, Nat.reduceSub, Nat.reduceMul, Nat.reduceLT, Nat.reduceMod, Nat.reduceDiv, Nat.reduceEqDiff, Nat.reduceBEq, Nat.reduceLeDiff, ↓reduceIte, reduceCtorEq, Int.reduceAdd, Int.reduceSub, Int.reduceLT, Int.reduceLE, Int.reduceBEq, Int.reduceEq, Int.reduceToNat, ir3_p2, ir3_po, undefV, t1, t2, t7, t12, t13, t14, ↓hl2, hz, hi0, hb1, hb2, hb3', hRb]
      refine GCall.of (take_px hx hR (fun b hb => hW b (hM b hb)) 0 0) ?_
      rintro r g2 ⟨hq, s, rfl, hos, _⟩
      have hgn2 := hq.1.n
      obtain ⟨M2, hx2, hM2, j12, j13, m12, m13, hn2, hold2⟩ := OS.call h0 hM h12 h13 n12 n13 hn hold hq
      rcases take_one X with ⟨hr, ht, he⟩ | ⟨l, tl, hr, ht, he, hB⟩
      · rw [ht] at hx2
        rw [he]
        simp -implicitDefEqProofs (disch := (first | omega | (simp -implicitDefEqProofs only [szs, ne_eq] <;> omega) | fail)) only [go_sem, Nat.reduceAdd, Nat.reduceSub, Nat.reduceMul, Nat.reduceLT, Nat.reduceMod, Nat.reduceDiv, Nat.reduceEqDiff, Nat.reduceBEq, Nat.reduceLeDiff, ↓reduceIte, reduceCtorEq, Int.reduceAdd, Int.reduceSub, Int.reduceLT, Int.reduceLE, Int.reduceBEq, Int.reduceEq, Int.reduceToNat, undefV]
        refine GCall.of (num_ok _).any ?_
        rintro r g2 ⟨rfl, rfl⟩
        simp -implicitDefEqProofs (disch := (first | omega | (simp -implicitDefEqProofs only [szs, ne_eq] <;> omega) | fail)) only [go_sem, Nat.reduceAdd, Nat.reduceSub, Nat.reduceMul, Nat.reduceLT, Nat.reduceMod, Nat.reduceDiv, Nat.reduceEqDiff, Nat.reduceBEq, Nat.reduceLeDiff, ↓reduceIte, reduceCtorEq, Int.reduceAdd, Int.reduceSub, Int.reduceLT, Int.reduceLE, Int.reduceBEq, Int.reduceEq, Int.reduceToNat, ir3_p2, ir3_po, undefV, t1, t2, t7, t12, t13, t14]
        exact hk _ g2 v12 v13 (by simp -implicitDefEqProofs (disch := (first | omega | (simp -implicitDefEqProofs only [szs, ne_eq] <;> omega) | fail)) only [go_sem, Nat.reduceAdd, Nat.reduceSub, Nat.reduceMul, Nat.reduceLT, Nat.reduceMod, Nat.reduceDiv, Nat.reduceEqDiff, Nat.reduceBEq, Nat.reduceLeDiff, ↓reduceIte, reduceCtorEq, Int.reduceAdd, Int.reduceSub, Int.reduceLT, Int.reduceLE, Int.reduceBEq, Int.reduceEq, Int.reduceToNat, t1]) (by simp -implicitDefEqProofs (disch := (first | omega | (simp -implicitDefEqProofs only [szs, ne_eq] <;> omega) | fail)) only [go_sem, Nat.reduceAdd, Nat.reduceSub, Nat.reduceMul, Nat.reduceLT, Nat.reduceMod, Nat.reduceDiv, Nat.reduceEqDiff, Nat.reduceBEq, Nat.reduceLeDiff, ↓reduceIte, reduceCtorEq, Int.reduceAdd, Int.reduceSub, Int.reduceLT, Int.reduceLE, Int.reduceBEq, Int.reduceEq, Int.reduceToNat, t2, List.length_map]) (by simp -implicitDefEqProofs (disch := (first | omega | (simp -implicitDefEqProofs only [szs, ne_eq] <;> omega) | fail)) only [go_sem, Nat.reduceAdd, Nat.reduceSub, Nat.reduceMul, Nat.reduceLT, Nat.reduceMod, Nat.reduceDiv, Nat.reduceEqDiff, Nat.reduceBEq, Nat.reduceLeDiff, ↓reduceIte, reduceCtorEq, Int.reduceAdd, Int.reduceSub, Int.reduceLT, Int.reduceLE, Int.reduceBEq, Int.reduceEq, Int.reduceToNat, t7]) (by simp -implicitDefEqProofs (disch := (first | omega | (simp -implicitDefEqProofs only [szs, ne_eq] <;> omega) | fail)) only [go_sem, Nat.reduceAdd, Nat.reduceSub, Nat.reduceMul, Nat.reduceLT, Nat.reduceMod, Nat.reduceDiv, Nat.reduceEqDiff, Nat.reduceBEq, Nat.reduceLeDiff, ↓reduceIte, reduceCtorEq, Int.reduceAdd, Int.reduceSub, Int.reduceLT, Int.reduceLE, Int.reduceBEq, Int.reduceEq, Int.reduceToNat, t12]) (by simp -implicitDefEqProofs (disch := (first | omega | (simp -implicitDefEqProofs only [szs, ne_eq] <;> omega) | fail)) only [go_sem, Nat.reduceAdd, Nat.reduceSub, Nat.reduceMul, Nat.reduceLT, Nat.reduceMod, Nat.reduceDiv, Nat.reduceEqDiff, Nat.reduceBEq, Nat.reduceLeDiff, ↓reduceIte, reduceCtorEq, Int.reduceAdd, Int.reduceSub, Int.reduceLT, Int.reduceLE, Int.reduceBEq, Int.reduceEq, Int.reduceToNat, t13]) (by simp -implicitDefEqProofs (disch := (first | omega | (simp -implicitDefEqProofs only [szs, ne_eq] <;> omega) | fail)) only [go_sem, Nat.reduceAdd, Nat.reduceSub, Nat.reduceMul, Nat.reduceLT, Nat.reduceMod, Nat.reduceDiv, Nat.reduceEqDiff, Nat.reduceBEq, Nat.reduceLeDiff, ↓reduceIte, reduceCtorEq, Int.reduceAdd, Int.reduceSub, Int.reduceLT, Int.reduceLE, Int.reduceBEq, Int.reduceEq, Int.reduceToNat]; try simp) ⟨M2, X, came, got, hx2, hM2, j12, j13, hd, m12, m13, hcm, hcl, hn2, hold2⟩
      · rw [ht] at hx2
        rw [hB] at hos
        rw [he]
        simp -implicitDefEqProofs (disch := (first | omega | (simp -implicitDefEqProofs only [szs, ne_eq] <;> omega) | fail)) only [go_sem, Nat.reduceAdd, Nat.reduceSub, Nat.reduceMul, Nat.reduceLT, Nat.reduceMod, Nat.reduceDiv, Nat.reduceEqDiff, Nat.reduceBEq, Nat.reduceLeDiff, ↓reduceIte, reduceCtorEq, Int.reduceAdd, Int.reduceSub, Int.reduceLT, Int.reduceLE, Int.reduceBEq, Int.reduceEq, Int.reduceToNat, undefV]
        refine GCall.of (num_ok _).any ?_
        rintro r g2 ⟨rfl, rfl⟩
        have hby : Byt l := ((hx.fit 0 0 X rfl).2 l (by rw [hr]; simp)).1
        obtain ⟨rs, hcv⟩ := conv_lr hos.lr hby
        have hrs : allB R rs := allB_of fun b _ => hR b
        have hgl : got.length ≤ came.length := by rw [hcm, List.length_append]; omega
        obtain ⟨v', g3, r3, w3, hap, hn3, o1, o2, d2, hb13, hw3, hk3⟩ := app_str (s := strB l) j13 j12 hd.symm h0 hn2 (by omega)
        have hr3 : allB R r3 := allB_of fun b _ => hR b
        have hw3' : allB W w3 := allB_of fun b h => hW b (hw3 b h)
        simp -implicitDefEqProofs (disch := (first | omega | (simp -implicitDefEqProofs only [szs, ne_eq] <;> omega) | fail)) only [go_sem, Nat.reduceAdd, Nat.reduceSub, Nat.reduceMul, Nat.reduceLT, Nat.reduceMod, Nat.reduceDiv, Nat.reduceEqDiff, Nat.reduceBEq, Nat.reduceLeDiff, ↓reduceIte, reduceCtorEq, Int.reduceAdd, Int.reduceSub, Int.reduceLT, Int.reduceLE, Int.reduceBEq, Int.reduceEq, Int.reduceToNat, ir3_p2, ir3_po, undefV, t1, t2, t7, t12, t13, t14, ↓cvS, hcv, hrs, appendV_of ap_35, hap, hr3, hw3']
        refine hk _ g3 v12 v' (by simp -implicitDefEqProofs (disch := (first | omega | (simp -implicitDefEqProofs only [szs, ne_eq] <;> omega) | fail)) only [go_sem, Nat.reduceAdd, Nat.reduceSub, Nat.reduceMul, Nat.reduceLT, Nat.reduceMod, Nat.reduceDiv, Nat.reduceEqDiff, Nat.reduceBEq, Nat.reduceLeDiff, ↓reduceIte, reduceCtorEq, Int.reduceAdd, Int.reduceSub, Int.reduceLT, Int.reduceLE, Int.reduceBEq, Int.reduceEq, Int.reduceToNat, t1]) (by simp -implicitDefEqProofs (disch := (first | omega | (simp -implicitDefEqProofs only [szs, ne_eq] <;> omega) | fail)) only [go_sem, Nat.reduceAdd, Nat.reduceSub, Nat.reduceMul, Nat.reduceLT, Nat.reduceMod, Nat.reduceDiv, Nat.reduceEqDiff, Nat.reduceBEq, Nat.reduceLeDiff, ↓reduceIte, reduceCtorEq, Int.reduceAdd, Int.reduceSub, Int.reduceLT, Int.reduceLE, Int.reduceBEq, Int.reduceEq, Int.reduceToNat, t2, List.length_map]) (by simp -implicitDefEqProofs (disch := (first | omega | (simp -implicitDefEqProofs only [szs, ne_eq] <;> omega) | fail)) only [go_sem, Nat.reduceAdd, Nat.reduceSub, Nat.reduceMul, Nat.reduceLT, Nat.reduceMod, Nat.reduceDiv, Nat.reduceEqDiff, Nat.reduceBEq, Nat.reduceLeDiff, ↓reduceIte, reduceCtorEq, Int.reduceAdd, Int.reduceSub, Int.reduceLT, Int.reduceLE, Int.reduceBEq, Int.reduceEq, Int.reduceToNat, t7]) (by simp -implicitDefEqProofs (disch := (first | omega | (simp -implicitDefEqProofs only [szs, ne_eq] <;> omega) | fail)) only [go_sem, Nat.reduceAdd, Nat.reduceSub, Nat.reduceMul, Nat.reduceLT, Nat.reduceMod, Nat.reduceDiv, Nat.reduceEqDiff, Nat.reduceBEq, Nat.reduceLeDiff, ↓reduceIte, reduceCtorEq, Int.reduceAdd, Int.reduceSub, Int.reduceLT, Int.reduceLE, Int.reduceBEq, Int.reduceEq, Int.reduceToNat, t12]) (by simp -implicitDefEqProofs (disch := (first | omega | (simp -implicitDefEqProofs only [szs, ne_eq] <;> omega) | fail)) only [go_sem, Nat.reduceAdd, Nat.reduceSub, Nat.reduceMul, Nat.reduceLT, Nat.reduceMod, Nat.reduceDiv, Nat.reduceEqDiff, Nat.reduceBEq, Nat.reduceLeDiff, ↓reduceIte, reduceCtorEq, Int.reduceAdd, Int.reduceSub, Int.reduceLT, Int.reduceLE, Int.reduceBEq, Int.reduceEq, Int.reduceToNat]) (by simp -implicitDefEqProofs (disch := (first | omega | (simp -implicitDefEqProofs only [szs, ne_eq] <;> omega) | fail)) only [go_sem, Nat.reduceAdd, Nat.reduceSub, Nat.reduceMul, Nat.reduceLT, Nat.reduceMod, Nat.reduceDiv, Nat.reduceEqDiff, Nat.reduceBEq, Nat.reduceLeDiff, ↓reduceIte, reduceCtorEq, Int.reduceAdd, Int.reduceSub, Int.reduceLT, Int.reduceLE, Int.reduceBEq, Int.reduceEq, Int.reduceToNat]; try simp) ⟨M2, { X with ring := tl }, came, got ++ [strB l], hx2.same hn3 fun k h => hk3 k (hx2.lt k h) (.inr fun e => m13 (e ▸ h)), hM2, o2, ?_, d2.symm, m12, ?_, ?_, hcl, by omega, fun k h => by rw [hk3 k (by omega) (.inl h)]; exact hold2 k h⟩
        · rw [List.length_append, strV_snoc]; exact o1
        · rcases hb13 with h | h
          · rw [h]; exact m13
          · exact fun h2 => by have := hx2.lt _ h2; omega
        · rw [hcm, hr]; simp
  · have hz : ¬ (i : Int) < (bs.length : Int) := by omega
    simp -implicitDefEqProofs (disch := (first | omega | (simp -implicitDefEqProofs only [szs, ne_eq] <;> omega) | fail)) only [go_sem, Nat.reduceAdd, Nat.reduceSub, Nat.reduceMul, Nat.reduceLT, Nat.reduceMod, Nat.reduceDiv, Nat.reduceEqDiff, Nat.reduceBEq, Nat.reduceLeDiff, ↓reduceIte, reduceCtorEq, Int.reduceAdd, Int.reduceSub, Int.reduceLT, Int.reduceLE, Int.reduceBEq, Int.reduceEq, Int.reduceToNat, ir3_p2, ir3_po, undefV, t1, t2, t7, t12, t13, t14, ↓hl2, hz]
    exact hk _ g v12 v13 (by simp -implicitDefEqProofs (disch := (first | omega | (simp -implicitDefEqProofs only [szs, ne_eq] <;> omega) | fail)) only [go_sem, Nat.reduceAdd, Nat.reduceSub, Nat.reduceMul, Nat.reduceLT, Nat.reduceMod, Nat.reduceDiv, Nat.reduceEqDiff, Nat.reduceBEq, Nat.reduceLeDiff, ↓reduceIte, reduceCtorEq, Int.reduceAdd, Int.reduceSub, Int.reduceLT, Int.reduceLE, Int.reduceBEq, Int.reduceEq, Int.reduceToNat, t1]) (by simp -implicitDefEqProofs (disch := (first | omega | (simp -implicitDefEqProofs only [szs, ne_eq] <;> omega) | fail)) only [go_sem, Nat.reduceAdd, Nat.reduceSub, Nat.reduceMul, Nat.reduceLT, Nat.reduceMod, Nat.reduceDiv, Nat.reduceEqDiff, Nat.reduceBEq, Nat.reduceLeDiff, ↓reduceIte, reduceCtorEq, Int.reduceAdd, Int.reduceSub, Int.reduceLT, Int.reduceLE, Int.reduceBEq, Int.reduceEq, Int.reduceToNat, t2]) (by simp -implicitDefEqProofs (disch := (first | omega | (simp -implicitDefEqProofs only [szs, ne_eq] <;> omega) | fail)) only [go_sem, Nat.reduceAdd, Nat.reduceSub, Nat.reduceMul, Nat.reduceLT, Nat.reduceMod, Nat.reduceDiv, Nat.reduceEqDiff, Nat.reduceBEq, Nat.reduceLeDiff, ↓reduceIte, reduceCtorEq, Int.reduceAdd, Int.reduceSub, Int.reduceLT, Int.reduceLE, Int.reduceBEq, Int.reduceEq, Int.reduceToNat, t7]) (by simp -implicitDefEqProofs (disch := (first | omega | (simp -implicitDefEqProofs only [szs, ne_eq] <;> omega) | fail)) only [go_sem, Nat.reduceAdd, Nat.reduceSub, Nat.reduceMul, Nat.reduceLT, Nat.reduceMod, Nat.reduceDiv, Nat.reduceEqDiff, Nat.reduceBEq, Nat.reduceLeDiff, ↓reduceIte, reduceCtorEq, Int.reduceAdd, Int.reduceSub, Int.reduceLT, Int.reduceLE, Int.reduceBEq, Int.reduceEq, Int.reduceToNat, t12]) (by simp -implicitDefEqProofs (disch := (first | omega | (simp -implicitDefEqProofs only [szs, ne_eq] <;> omega) | fail)) only [go_sem, Nat.reduceAdd, Nat.reduceSub, Nat.reduceMul, Nat.reduceLT, Nat.reduceMod, Nat.reduceDiv, Nat.reduceEqDiff, Nat.reduceBEq, Nat.reduceLeDiff, ↓reduceIte, reduceCtorEq, Int.reduceAdd, Int.reduceSub, Int.reduceLT, Int.reduceLE, Int.reduceBEq, Int.reduceEq, Int.reduceToNat, t13]) (by simp -implicitDefEqProofs (disch := (first | omega | (simp -implicitDefEqProofs only [szs, ne_eq] <;> omega) | fail)) only [go_sem, Nat.reduceAdd, Nat.reduceSub, Nat.reduceMul, Nat.reduceLT, Nat.reduceMod, Nat.reduceDiv, Nat.reduceEqDiff, Nat.reduceBEq, Nat.reduceLeDiff, ↓reduceIte, reduceCtorEq, Int.reduceAdd, Int.reduceSub, Int.reduceLT, Int.reduceLE, Int.reduceBEq, Int.reduceEq, Int.reduceToNat]; try simp) hs
set_option maxHeartbeats 4000000 in
theorem order_p1 {Q : Ex → Fr → Heap → Prop} {hb g : Heap} {pp i c nw : Nat} {v1 v2 v12 v13 w : V} {tr : Tr V} {S2 : Set'} {bs : List Bool} (h0 : 0 < hb.n) (hR : ∀ b, R b) (hW : ∀ b, hb.n ≤ b → W b) (hc : c ≤ 1000) (hv2 : LR hb S2 v2 (bs.map .bool)) (hi : i ≤ 1000)
    (hw : ∀ g, lenV Try.prog 37 w g = some (nw, [])) (hnw : nw ≤ 1)
    (t1 : tr.get 1 = some v1) (t2 : tr.get 2 = some v2) (t7 : tr.get 7 = some (.ptr (some (pp, 0)))) (t12 : tr.get 12 = some v12) (t13 : tr.get 13 = some v13) (t14 : tr.get 14 = some (.int .i64 (i : Int))) (t15 : tr.get 15 = some w) (hs : OS hb g pp v12 v13 c)
    (hk : ∀ tr g v12 v13, tr.get 1 = some v1 → tr.get 2 = some v2 → tr.get 7 = some (.ptr (some (pp, 0))) → tr.get 12 = some v12 → tr.get 13 = some v13 → tr.get 14 = some (.int .i64 ((i + 1 : Nat) : Int)) → OS hb g pp v12 v13 c → Q .norm ⟨⟨163, tr⟩, []⟩ g) :
    GO ⟨Try.prog, true⟩ R W none Q [.code ir3_p1, .blk 1, .code ir3_po] ⟨⟨163, tr⟩, []⟩ g := by
  obtain ⟨M, X, came, got, hx, hM, h12, h13, hd, n12, n13, hcm, hcl, hn, hold⟩ := id hs
  have h8 := hx.len8 (a := 0) (n := 0) (x := X) rfl
  simp -implicitDefEqProofs (disch := (first | omega | (simp -implicitDefEqProofs only [szs, ne_eq] <;> omega) | fail)) only [go_sem, Nat.reduceAdd, Nat.reduceSub, Nat.reduceMul, Nat.reduceLT, Nat.reduceMod, Nat.reduceDiv, Nat.reduceEqDiff, Nat.reduceBEq, Nat.reduceLeDiff, ↓reduceIte, reduceCtorEq, Int.reduceAdd, Int.reduceSub, Int.reduceLT, Int.reduceLE, Int.reduceBEq, Int.reduceEq, Int.reduceToNat, ir3_p1, undefV, t7]
  refine GCall.of (len_px hx hR 0 0) ?_
  rintro r g2 ⟨rfl, rfl⟩
  rw [show (((lookA (one X) 0 0).map fun x => (x.ring.length : Int)).getD 0) = (X.ring.length : Int) from rfl]
  have hz1 : ¬ (8 : Int) < (X.ring.length : Int) := by omega
  have hz2 : ¬ (1 : Int) < (nw : Int) := by omega
  simp -implicitDefEqProofs (disch := (first | omega | (simp -implicitDefEqProofs only [szs, ne_eq] <;> omega) | fail)) only [go_sem, Nat.reduceAdd, Nat.reduceSub, Nat.reduceMul, Nat.reduceLT, Nat.reduceMod, Nat.reduceDiv, Nat.reduceEqDiff, Nat.reduceBEq, Nat.reduceLeDiff, ↓reduceIte, reduceCtorEq, Int.reduceAdd, Int.reduceSub, Int.reduceLT, Int.reduceLE, Int.reduceBEq, Int.reduceEq, Int.reduceToNat, undefV, t7, t15, hz1, ↓hw, hz2]
  exact order_p2 h0 hR hW hc hv2 hi (by simp -implicitDefEqProofs (disch := (first | omega | (simp -implicitDefEqProofs only [szs, ne_eq] <;> omega) | fail)) only [go_sem, Nat.reduceAdd, Nat.reduceSub, Nat.reduceMul, Nat.reduceLT, Nat.reduceMod, Nat.reduceDiv, Nat.reduceEqDiff, Nat.reduceBEq, Nat.reduceLeDiff, ↓reduceIte, reduceCtorEq, Int.reduceAdd, Int.reduceSub, Int.reduceLT, Int.reduceLE, Int.reduceBEq, Int.reduceEq, Int.reduceToNat, t1]) (by simp -implicitDefEqProofs (disch := (first | omega | (simp -implicitDefEqProofs only [szs, ne_eq] <;> omega) | fail)) only [go_sem, Nat.reduceAdd, Nat.reduceSub, Nat.reduceMul, Nat.reduceLT, Nat.reduceMod, Nat.reduceDiv, Nat.reduceEqDiff, Nat.reduceBEq, Nat.reduceLeDiff, ↓reduceIte, reduceCtorEq, Int.reduceAdd, Int.reduceSub, Int.reduceLT, Int.reduceLE, Int.reduceBEq, Int.reduceEq, Int.reduceToNat, t2]) (by simp -implicitDefEqProofs (disch := (first | omega | (simp -implicitDefEqProofs only [szs, ne_eq] <;> omega) | fail)) only [go_sem, Nat.reduceAdd, Nat.reduceSub, Nat.reduceMul, Nat.reduceLT, Nat.reduceMod, Nat.reduceDiv, Nat.reduceEqDiff, Nat.reduceBEq, Nat.reduceLeDiff, ↓reduceIte, reduceCtorEq, Int.reduceAdd, Int.reduceSub, Int.reduceLT, Int.reduceLE, Int.reduceBEq, Int.reduceEq, Int.reduceToNat, t7]) (by simp -implicitDefEqProofs (disch := (first | omega | (simp -implicitDefEqProofs only [szs, ne_eq] <;> omega) | fail)) only [go_sem, Nat.reduceAdd, Nat.reduceSub, Nat.reduceMul, Nat.reduceLT, Nat.reduceMod, Nat.reduceDiv, Nat.reduceEqDiff, Nat.reduceBEq, Nat.reduceLeDiff, ↓reduceIte, reduceCtorEq, Int.reduceAdd, Int.reduceSub, Int.reduceLT, Int.reduceLE, Int.reduceBEq, Int.reduceEq, Int.reduceToNat, t12]) (by simp -implicitDefEqProofs (disch := (first | omega | (simp -implicitDefEqProofs only [szs, ne_eq] <;> omega) | fail)) only [go_sem, Nat.reduceAdd, Nat.reduceSub, Nat.reduceMul, Nat.reduceLT, Nat.reduceMod, Nat.reduceDiv, Nat.reduceEqDiff, Nat.reduceBEq, Nat.reduceLeDiff, ↓reduceIte, reduceCtorEq, Int.reduceAdd, Int.reduceSub, Int.reduceLT, Int.reduceLE, Int.reduceBEq, Int.reduceEq, Int.reduceToNat, t13]) (by simp -implicitDefEqProofs (disch := (first | omega | (simp -implicitDefEqProofs only [szs, ne_eq] <;> omega) | fail)) only [go_sem, Nat.reduceAdd, Nat.reduceSub, Nat.reduceMul, Nat.reduceLT, Nat.reduceMod, Nat.reduceDiv, Nat.reduceEqDiff, Nat.reduceBEq, Nat.reduceLeDiff, ↓reduceIte, reduceCtorEq, Int.reduceAdd, Int.reduceSub, Int.reduceLT, Int.reduceLE, Int.reduceBEq, Int.reduceEq, Int.reduceToNat, t14]) hs hk
end Go.Proofs.Ytmimialblhlklaa
