/- The pool: Used, Quota, Hold, Of. -/
import Derived.Test.YtfgdpgagcnelpaaH6
import Derived.Test.YtfgdpgagcnelpaaV3
set_option linter.unusedVariables false
set_option linter.unusedSimpArgs false
set_option linter.unusedSimpArgs false
set_option maxRecDepth 100000
set_option linter.unusedVariables false
set_option linter.unusedSimpArgs false
namespace Go.Proofs.Ytfgdpgagcnelpaa
open Go Go.Vm

theorem used_bad {h : Heap} {R W : Set'} {bp : Nat} {L : PL} {S : PS} (hp : PoolAt h bp L S) (hR : R bp) (k : Int) (hk : ¬ (0 ≤ k ∧ k < S.na)) :
    SF Try.prog 20 [.ptr (some (bp, 0)), .int .i64 k] h R W fun v h' => v = .int .i64 0 ∧ h' = h := by
  refine SF.go hm Try.func20 ir20_eq ?_
  simp -implicitDefEqProofs (disch := (first | omega | (simp -implicitDefEqProofs only [szs, ne_eq] <;> omega) | fail)) only [go_sem, Nat.reduceAdd, Nat.reduceSub, Nat.reduceMul, Nat.reduceLT, Nat.reduceMod, Nat.reduceDiv, Nat.reduceEqDiff, Nat.reduceBEq, Nat.reduceLeDiff, ↓reduceIte, reduceCtorEq, Int.reduceAdd, Int.reduceSub, Int.reduceLT, Int.reduceLE, Int.reduceBEq, Int.reduceEq, Int.reduceToNat, ir20]
  refine GCall.of (there_ok hp (.inr hR)) ?_
  rintro v h' ⟨rfl, rfl⟩
  simp -implicitDefEqProofs (disch := (first | omega | (simp -implicitDefEqProofs only [szs, ne_eq] <;> omega) | fail)) only [go_sem, Nat.reduceAdd, Nat.reduceSub, Nat.reduceMul, Nat.reduceLT, Nat.reduceMod, Nat.reduceDiv, Nat.reduceEqDiff, Nat.reduceBEq, Nat.reduceLeDiff, ↓reduceIte, reduceCtorEq, Int.reduceAdd, Int.reduceSub, Int.reduceLT, Int.reduceLE, Int.reduceBEq, Int.reduceEq, Int.reduceToNat]
  refine GCall.of (account_ok hp (.inr hR) k) ?_
  rintro v h' ⟨rfl, rfl⟩
  have e : decide (0 ≤ k ∧ k < S.na) = false := by simpa using hk
  rw [e]
  simp -implicitDefEqProofs (disch := (first | omega | (simp -implicitDefEqProofs only [szs, ne_eq] <;> omega) | fail)) only [go_sem, Nat.reduceAdd, Nat.reduceSub, Nat.reduceMul, Nat.reduceLT, Nat.reduceMod, Nat.reduceDiv, Nat.reduceEqDiff, Nat.reduceBEq, Nat.reduceLeDiff, ↓reduceIte, reduceCtorEq, Int.reduceAdd, Int.reduceSub, Int.reduceLT, Int.reduceLE, Int.reduceBEq, Int.reduceEq, Int.reduceToNat]
theorem used_ok {h : Heap} {R W : Set'} {bp : Nat} {L : PL} {S : PS} (hp : PoolAt h bp L S) (hR : R bp) (hRu : R L.ub) {a : Nat} (ha : a < S.na) :
    SF Try.prog 20 [.ptr (some (bp, 0)), .int .i64 a] h R W fun v h' => v = .int .i64 (S.us a) ∧ h' = h := by
  obtain ⟨c, h1, ic⟩ := hp.p
  obtain ⟨u, hu, iu⟩ := hp.u
  have hsz := ic.size
  have c2 := ic.c2
  have us := iu.size
  have u1 := iu.get a ha
  refine SF.go hm Try.func20 ir20_eq ?_
  simp -implicitDefEqProofs (disch := (first | omega | (simp -implicitDefEqProofs only [szs, ne_eq] <;> omega) | fail)) only [go_sem, Nat.reduceAdd, Nat.reduceSub, Nat.reduceMul, Nat.reduceLT, Nat.reduceMod, Nat.reduceDiv, Nat.reduceEqDiff, Nat.reduceBEq, Nat.reduceLeDiff, ↓reduceIte, reduceCtorEq, Int.reduceAdd, Int.reduceSub, Int.reduceLT, Int.reduceLE, Int.reduceBEq, Int.reduceEq, Int.reduceToNat, ir20]
  refine GCall.of (there_ok hp (.inr hR)) ?_
  rintro v h' ⟨rfl, rfl⟩
  simp -implicitDefEqProofs (disch := (first | omega | (simp -implicitDefEqProofs only [szs, ne_eq] <;> omega) | fail)) only [go_sem, Nat.reduceAdd, Nat.reduceSub, Nat.reduceMul, Nat.reduceLT, Nat.reduceMod, Nat.reduceDiv, Nat.reduceEqDiff, Nat.reduceBEq, Nat.reduceLeDiff, ↓reduceIte, reduceCtorEq, Int.reduceAdd, Int.reduceSub, Int.reduceLT, Int.reduceLE, Int.reduceBEq, Int.reduceEq, Int.reduceToNat]
  refine GCall.of (account_ok hp (.inr hR) a) ?_
  rintro v h' ⟨rfl, rfl⟩
  have e : decide (0 ≤ (a : Int) ∧ (a : Int) < S.na) = true := by simp; omega
  rw [e]
  simp -implicitDefEqProofs (disch := (first | omega | (simp -implicitDefEqProofs only [szs, ne_eq] <;> omega) | fail)) only [go_sem, Nat.reduceAdd, Nat.reduceSub, Nat.reduceMul, Nat.reduceLT, Nat.reduceMod, Nat.reduceDiv, Nat.reduceEqDiff, Nat.reduceBEq, Nat.reduceLeDiff, ↓reduceIte, reduceCtorEq, Int.reduceAdd, Int.reduceSub, Int.reduceLT, Int.reduceLE, Int.reduceBEq, Int.reduceEq, Int.reduceToNat, h1, c2, hu, u1, hR, hRu]
theorem quota_ok {h : Heap} {R W : Set'} {bp : Nat} {L : PL} {S : PS} (hp : PoolAt h bp L S) (hR : R bp) (hRq : R L.qb) {a : Nat} (ha : a < S.na) :
    SF Try.prog 22 [.ptr (some (bp, 0)), .int .i64 a] h R W fun v h' => v = .int .i64 (S.qu a) ∧ h' = h := by
  obtain ⟨c, h1, ic⟩ := hp.p
  obtain ⟨q, hq, iq⟩ := hp.q
  have hsz := ic.size
  have c1 := ic.c1
  have qs := iq.size
  have q1 := iq.get a ha
  refine SF.go hm Try.func22 ir22_eq ?_
  simp -implicitDefEqProofs (disch := (first | omega | (simp -implicitDefEqProofs only [szs, ne_eq] <;> omega) | fail)) only [go_sem, Nat.reduceAdd, Nat.reduceSub, Nat.reduceMul, Nat.reduceLT, Nat.reduceMod, Nat.reduceDiv, Nat.reduceEqDiff, Nat.reduceBEq, Nat.reduceLeDiff, ↓reduceIte, reduceCtorEq, Int.reduceAdd, Int.reduceSub, Int.reduceLT, Int.reduceLE, Int.reduceBEq, Int.reduceEq, Int.reduceToNat, ir22]
  refine GCall.of (there_ok hp (.inr hR)) ?_
  rintro v h' ⟨rfl, rfl⟩
  simp -implicitDefEqProofs (disch := (first | omega | (simp -implicitDefEqProofs only [szs, ne_eq] <;> omega) | fail)) only [go_sem, Nat.reduceAdd, Nat.reduceSub, Nat.reduceMul, Nat.reduceLT, Nat.reduceMod, Nat.reduceDiv, Nat.reduceEqDiff, Nat.reduceBEq, Nat.reduceLeDiff, ↓reduceIte, reduceCtorEq, Int.reduceAdd, Int.reduceSub, Int.reduceLT, Int.reduceLE, Int.reduceBEq, Int.reduceEq, Int.reduceToNat]
  refine GCall.of (account_ok hp (.inr hR) a) ?_
  rintro v h' ⟨rfl, rfl⟩
  have e : decide (0 ≤ (a : Int) ∧ (a : Int) < S.na) = true := by simp; omega
  rw [e]
  simp -implicitDefEqProofs (disch := (first | omega | (simp -implicitDefEqProofs only [szs, ne_eq] <;> omega) | fail)) only [go_sem, Nat.reduceAdd, Nat.reduceSub, Nat.reduceMul, Nat.reduceLT, Nat.reduceMod, Nat.reduceDiv, Nat.reduceEqDiff, Nat.reduceBEq, Nat.reduceLeDiff, ↓reduceIte, reduceCtorEq, Int.reduceAdd, Int.reduceSub, Int.reduceLT, Int.reduceLE, Int.reduceBEq, Int.reduceEq, Int.reduceToNat, h1, c1, hq, q1, hR, hRq]
theorem hold_no {h : Heap} {R W : Set'} {bp : Nat} {L : PL} {S : PS} (hp : PoolAt h bp L S) (hR : R bp) (hRf : R L.fb) (k : Int) (hk : ¬ Owned S k) :
    SF Try.prog 12 [.ptr (some (bp, 0)), .int .i64 k] h R W fun v h' => v = .int .i64 6 ∧ h' = h := by
  refine SF.go hm Try.func12 ir12_eq ?_
  simp -implicitDefEqProofs (disch := (first | omega | (simp -implicitDefEqProofs only [szs, ne_eq] <;> omega) | fail)) only [go_sem, Nat.reduceAdd, Nat.reduceSub, Nat.reduceMul, Nat.reduceLT, Nat.reduceMod, Nat.reduceDiv, Nat.reduceEqDiff, Nat.reduceBEq, Nat.reduceLeDiff, ↓reduceIte, reduceCtorEq, Int.reduceAdd, Int.reduceSub, Int.reduceLT, Int.reduceLE, Int.reduceBEq, Int.reduceEq, Int.reduceToNat, ir12]
  refine GCall.of (at_no hp (.inr hR) (.inr hRf) k hk) ?_
  rintro v h' ⟨rfl, rfl⟩
  simp -implicitDefEqProofs (disch := (first | omega | (simp -implicitDefEqProofs only [szs, ne_eq] <;> omega) | fail)) only [go_sem, Nat.reduceAdd, Nat.reduceSub, Nat.reduceMul, Nat.reduceLT, Nat.reduceMod, Nat.reduceDiv, Nat.reduceEqDiff, Nat.reduceBEq, Nat.reduceLeDiff, ↓reduceIte, reduceCtorEq, Int.reduceAdd, Int.reduceSub, Int.reduceLT, Int.reduceLE, Int.reduceBEq, Int.reduceEq, Int.reduceToNat]
theorem of_no {h : Heap} {R W : Set'} {bp : Nat} {L : PL} {S : PS} (hp : PoolAt h bp L S) (hR : R bp) (hRf : R L.fb) (k : Int) (hk : ¬ Owned S k) :
    SF Try.prog 19 [.ptr (some (bp, 0)), .int .i64 k] h R W fun v h' => v = .tuple [.agg [.int .i64 0, .int .i64 0, .int .i64 0], .int .i64 6] ∧ h.n ≤ h'.n ∧ ∀ b, b < h.n → h'.get b = h.get b := by
  refine SF.go hm Try.func19 ir19_eq ?_
  simp -implicitDefEqProofs (disch := (first | omega | (simp -implicitDefEqProofs only [szs, ne_eq] <;> omega) | fail)) only [go_sem, Nat.reduceAdd, Nat.reduceSub, Nat.reduceMul, Nat.reduceLT, Nat.reduceMod, Nat.reduceDiv, Nat.reduceEqDiff, Nat.reduceBEq, Nat.reduceLeDiff, ↓reduceIte, reduceCtorEq, Int.reduceAdd, Int.reduceSub, Int.reduceLT, Int.reduceLE, Int.reduceBEq, Int.reduceEq, Int.reduceToNat, ir19]
  refine GCall.of (at_no (hp.push _) (.inr hR) (.inr hRf) k hk) ?_
  rintro v h' ⟨rfl, rfl⟩
  simp -implicitDefEqProofs (disch := (first | omega | (simp -implicitDefEqProofs only [szs, ne_eq] <;> omega) | fail)) only [go_sem, Nat.reduceAdd, Nat.reduceSub, Nat.reduceMul, Nat.reduceLT, Nat.reduceMod, Nat.reduceDiv, Nat.reduceEqDiff, Nat.reduceBEq, Nat.reduceLeDiff, ↓reduceIte, reduceCtorEq, Int.reduceAdd, Int.reduceSub, Int.reduceLT, Int.reduceLE, Int.reduceBEq, Int.reduceEq, Int.reduceToNat]
  exact fun b hb => by simp -implicitDefEqProofs (disch := (first | omega | (simp -implicitDefEqProofs only [szs, ne_eq] <;> omega) | fail)) only [go_sem, Nat.reduceAdd, Nat.reduceSub, Nat.reduceMul, Nat.reduceLT, Nat.reduceMod, Nat.reduceDiv, Nat.reduceEqDiff, Nat.reduceBEq, Nat.reduceLeDiff, ↓reduceIte, reduceCtorEq, Int.reduceAdd, Int.reduceSub, Int.reduceLT, Int.reduceLE, Int.reduceBEq, Int.reduceEq, Int.reduceToNat]
theorem of_yes {h : Heap} {R W : Set'} {bp : Nat} {L : PL} {S : PS} (hp : PoolAt h bp L S) (hR : R bp) (hRf : R L.fb) (i : Nat) (hi : i < S.n) (ho : S.ho i ≠ 0) :
    SF Try.prog 19 [.ptr (some (bp, 0)), .int .i64 i] h R W fun v h' => v = .tuple [.agg [.int .i64 i, .int .i64 (S.ow i), .int .i64 (S.ho i)], .int .i64 0] ∧ h.n ≤ h'.n ∧ ∀ b, b < h.n → h'.get b = h.get b := by
  obtain ⟨f, hf, if'⟩ := hp.f
  have fs := if'.size
  have g0 := if'.ow i hi
  have g1 := if'.ho i hi
  have hlt := Heap.lt_of_get hf
  refine SF.go hm Try.func19 ir19_eq ?_
  simp -implicitDefEqProofs (disch := (first | omega | (simp -implicitDefEqProofs only [szs, ne_eq] <;> omega) | fail)) only [go_sem, Nat.reduceAdd, Nat.reduceSub, Nat.reduceMul, Nat.reduceLT, Nat.reduceMod, Nat.reduceDiv, Nat.reduceEqDiff, Nat.reduceBEq, Nat.reduceLeDiff, ↓reduceIte, reduceCtorEq, Int.reduceAdd, Int.reduceSub, Int.reduceLT, Int.reduceLE, Int.reduceBEq, Int.reduceEq, Int.reduceToNat, ir19]
  refine GCall.of (at_yes (hp.push _) (.inr hR) (.inr hRf) i hi ho) ?_
  rintro v h' ⟨rfl, rfl⟩
  simp -implicitDefEqProofs (disch := (first | omega | (simp -implicitDefEqProofs only [szs, ne_eq] <;> omega) | fail)) only [go_sem, Nat.reduceAdd, Nat.reduceSub, Nat.reduceMul, Nat.reduceLT, Nat.reduceMod, Nat.reduceDiv, Nat.reduceEqDiff, Nat.reduceBEq, Nat.reduceLeDiff, ↓reduceIte, reduceCtorEq, Int.reduceAdd, Int.reduceSub, Int.reduceLT, Int.reduceLE, Int.reduceBEq, Int.reduceEq, Int.reduceToNat, hf, g0, g1, hRf]

  exact fun b hb => by simp -implicitDefEqProofs (disch := (first | omega | (simp -implicitDefEqProofs only [szs, ne_eq] <;> omega) | fail)) only [go_sem, Nat.reduceAdd, Nat.reduceSub, Nat.reduceMul, Nat.reduceLT, Nat.reduceMod, Nat.reduceDiv, Nat.reduceEqDiff, Nat.reduceBEq, Nat.reduceLeDiff, ↓reduceIte, reduceCtorEq, Int.reduceAdd, Int.reduceSub, Int.reduceLT, Int.reduceLE, Int.reduceBEq, Int.reduceEq, Int.reduceToNat]
end Go.Proofs.Ytfgdpgagcnelpaa

namespace Go.Vm
theorem append_firstS {e sz bytes : Nat} {h : Heap} {xb : Nat} {cx : Blk} {te : TypeId} {vs : List V} (hx : h.get xb = some (.cells cx te)) (hs : sz ≤ cx.size) (hv : cx.gets 0 sz = vs) (hb : bytes ≤ 140737488355328) :
    appE e sz bytes (.slice none 0 0 true) (.slice (some (xb, 0)) 1 1 true) h = some ⟨.slice (some (h.n, 0)) 1 1 false, h.push (.cells (Blk.of vs) e), [xb], []⟩ := by
  have hl : vs.length = sz := by rw [← hv, Blk.length_gets]
  unfold appE
  simp only [lenOfV, firstV, hx, Nat.one_mul, Nat.zero_add, w_ble_t hs, hv, w_beq_t hl, w_ble_f (show 0 < 1 by omega), Nat.zero_mul, List.length_nil, w_beq_t (rfl : 0 = 0), w_ble_t hb, w_ble_t (show 1 ≤ 9223372036854775807 by omega)]
  rfl
theorem append_nextS {e sz bytes n : Nat} {h : Heap} {xb bj : Nat} {cx : Blk} {te : TypeId} {vs l : List V} (hx : h.get xb = some (.cells cx te)) (hs : sz ≤ cx.size) (hv : cx.gets 0 sz = vs) (hv1 : allOne vs = true) (hn : n * sz = l.length) (hj : h.get bj = some (.cells (Blk.of l) e)) (hb : (n + 1) * bytes ≤ 140737488355328) (hbig : n + 1 ≤ 9223372036854775807) :
    appE e sz bytes (.slice (some (bj, 0)) n n false) (.slice (some (xb, 0)) 1 1 true) h = some ⟨.slice (some (h.n, 0)) (n + 1) (n + 1) false, (h.set bj .dead).push (.cells (Blk.of (l ++ vs)) e), [xb] ++ [bj], [bj]⟩ := by
  have hl : vs.length = sz := by rw [← hv, Blk.length_gets]
  unfold appE
  simp only [lenOfV, firstV, hx, Nat.one_mul, Nat.zero_add, w_ble_t hs, hv, w_beq_t hl, w_ble_f (show n < n + 1 by omega), hj, w_of_size, w_ble_t (show n * sz ≤ l.length by omega), gets_all l hn, w_beq_t (show l.length = n * sz from hn.symm), w_ble_t hb, w_ble_t hbig]
  simp only [appendOut, hj, w_beq_t (rfl : e = e), w_of_size, Nat.zero_add, w_beq_t hn, hv1, Blk.ro_of]
end Go.Vm
namespace Go.Proofs.Ytfgdpgagcnelpaa
open Go Go.Vm
theorem ap_93 : apT Try.prog 93 93 = some (46, 3, 24) := by kernel_rfl
def rowF (x y z : Int) : List V := [.int .i64 x, .int .i64 y, .int .i64 z]
/-- The frames that are held, of the first k. -/
def heldL (S : PS) : Nat → List V
  | 0 => []
  | k + 1 => heldL S k ++ if S.ho k = 0 then [] else rowF k (S.ow k) (S.ho k)
/-- What has been gathered. -/
def GatherAt (h : Heap) (b3 : Nat) (l : List V) : Prop :=
  (l = [] ∧ h.get b3 = some (.cells (Blk.of [.slice none 0 0 true]) 93)) ∨ ∃ nb n c, h.get b3 = some (.cells c 93) ∧ c.size = 1 ∧ c.ro = false ∧ c.get 0 = .slice (some (nb, 0)) n n false ∧ n * 3 = l.length ∧ 0 < n ∧ h.get nb = some (.cells (Blk.of l) 46) ∧ nb ≠ b3 ∧ b3 < nb
theorem heldL_len (S : PS) : ∀ k, (heldL S k).length ≤ k * 3
  | 0 => by simp [heldL]
  | k + 1 => by
    have := heldL_len S k
    simp only [heldL, List.length_append]
    split <;> simp [rowF] <;> omega
/-- A frame's row in its own place. -/
theorem stF (h : Heap) (x y z : Int) : ∃ h2, ((h.push (O.cells (Blk.of [V.int IntKind.i64 0, V.int IntKind.i64 0, V.int IntKind.i64 0]) 46)).set h.n
      (O.cells ((((Blk.of [V.int IntKind.i64 0, V.int IntKind.i64 0, V.int IntKind.i64 0]).set 0 (V.int IntKind.i64 x)).set 1 (V.int IntKind.i64 y)).set 2 (V.int IntKind.i64 z)) 46)) = h2 ∧ h2.n = h.n + 1 ∧
      (∃ s, h2.get h.n = some (.cells s 46) ∧ s.size = 3 ∧ s.get 0 = .int .i64 x ∧ s.get 1 = .int .i64 y ∧ s.get 2 = .int .i64 z) ∧ ∀ b, b < h.n → h2.get b = h.get b := by
  refine ⟨_, rfl, by simp, ⟨((((Blk.of [V.int IntKind.i64 0, V.int IntKind.i64 0, V.int IntKind.i64 0]).set 0 (V.int IntKind.i64 x)).set 1 (V.int IntKind.i64 y)).set 2 (V.int IntKind.i64 z)), by simp -implicitDefEqProofs (disch := (first | omega | (simp -implicitDefEqProofs only [szs, ne_eq] <;> omega) | fail)) only [go_sem, Nat.reduceAdd, Nat.reduceSub, Nat.reduceMul, Nat.reduceLT, Nat.reduceMod, Nat.reduceDiv, Nat.reduceEqDiff, Nat.reduceBEq, Nat.reduceLeDiff, ↓reduceIte, reduceCtorEq, Int.reduceAdd, Int.reduceSub, Int.reduceLT, Int.reduceLE, Int.reduceBEq, Int.reduceEq, Int.reduceToNat], rfl, ?_, ?_, ?_⟩, fun b hb => by simp -implicitDefEqProofs (disch := (first | omega | (simp -implicitDefEqProofs only [szs, ne_eq] <;> omega) | fail)) only [go_sem, Nat.reduceAdd, Nat.reduceSub, Nat.reduceMul, Nat.reduceLT, Nat.reduceMod, Nat.reduceDiv, Nat.reduceEqDiff, Nat.reduceBEq, Nat.reduceLeDiff, ↓reduceIte, reduceCtorEq, Int.reduceAdd, Int.reduceSub, Int.reduceLT, Int.reduceLE, Int.reduceBEq, Int.reduceEq, Int.reduceToNat]⟩ <;> simp -implicitDefEqProofs (disch := (first | omega | (simp -implicitDefEqProofs only [szs, ne_eq] <;> omega) | fail)) only [go_sem, Nat.reduceAdd, Nat.reduceSub, Nat.reduceMul, Nat.reduceLT, Nat.reduceMod, Nat.reduceDiv, Nat.reduceEqDiff, Nat.reduceBEq, Nat.reduceLeDiff, ↓reduceIte, reduceCtorEq, Int.reduceAdd, Int.reduceSub, Int.reduceLT, Int.reduceLE, Int.reduceBEq, Int.reduceEq, Int.reduceToNat]
theorem GatherAt.keep {g g2 : Heap} {b3 : Nat} {l : List V} (hG : GatherAt g b3 l) (hk : ∀ b, b < g.n → g2.get b = g.get b) : GatherAt g2 b3 l := by
  rcases hG with ⟨hl, hg3⟩ | ⟨nb, n, c3, hg3, hs3, hro3, hc3, hn3, hn0, hgb, hne, hlt3⟩
  · exact .inl ⟨hl, by rw [hk _ (Heap.lt_of_get hg3)]; exact hg3⟩
  · exact .inr ⟨nb, n, c3, by rw [hk _ (Heap.lt_of_get hg3)]; exact hg3, hs3, hro3, hc3, hn3, hn0, by rw [hk _ (Heap.lt_of_get hgb)]; exact hgb, hne, hlt3⟩
set_option maxHeartbeats 1000000 in
theorem all_ok {h : Heap} {R W : Set'} {bp : Nat} {L : PL} {S : PS} (hp : PoolAt h bp L S) (hR : ∀ b, R b) :
    SF Try.prog 36 [.ptr (some (bp, 0))] h R W fun v h' => v = .func 54 [] [.ptr (some (h.n, 0))] ∧ h.n < h'.n ∧ GatherAt h' h.n (heldL S S.n) ∧ ∀ b, b < h.n → h'.get b = h.get b := by
  obtain ⟨c, h1, ic⟩ := hp.p
  have hsz := ic.size
  have c0 := ic.c0
  have hlt := Heap.lt_of_get h1
  have hlo := hp.lo
  refine SF.go hm Try.func36 ir36_eq ?_
  simp -implicitDefEqProofs (disch := (first | omega | (simp -implicitDefEqProofs only [szs, ne_eq] <;> omega) | fail)) only [go_sem, Nat.reduceAdd, Nat.reduceSub, Nat.reduceMul, Nat.reduceLT, Nat.reduceMod, Nat.reduceDiv, Nat.reduceEqDiff, Nat.reduceBEq, Nat.reduceLeDiff, ↓reduceIte, reduceCtorEq, Int.reduceAdd, Int.reduceSub, Int.reduceLT, Int.reduceLE, Int.reduceBEq, Int.reduceEq, Int.reduceToNat, ir36]
  refine GCall.of (there_ok (hp.push _) (.inr (hR _))) ?_
  rintro v h' ⟨rfl, rfl⟩
  simp -implicitDefEqProofs (disch := (first | omega | (simp -implicitDefEqProofs only [szs, ne_eq] <;> omega) | fail)) only [go_sem, Nat.reduceAdd, Nat.reduceSub, Nat.reduceMul, Nat.reduceLT, Nat.reduceMod, Nat.reduceDiv, Nat.reduceEqDiff, Nat.reduceBEq, Nat.reduceLeDiff, ↓reduceIte, reduceCtorEq, Int.reduceAdd, Int.reduceSub, Int.reduceLT, Int.reduceLE, Int.reduceBEq, Int.reduceEq, Int.reduceToNat, h1, c0, hR]
  refine GLoop.inv hm (fun k f g => f.mks = [] ∧ f.tm.n = 31 ∧ f.tm.get 0 = some (.ptr (some (bp, 0))) ∧ f.tm.get 3 = some (.ptr (some (h.n, 0))) ∧ f.tm.get 13 = some (.int .i64 S.n) ∧ ∃ i : Nat, i + k = S.n ∧ f.tm.get 14 = some (.int .i64 i) ∧ h.n < g.n ∧ GatherAt g h.n (heldL S i) ∧ ∀ b, b < h.n → g.get b = h.get b) S.n ?_ ?_
  · refine ⟨rfl, rfl, rfl, rfl, rfl, 0, by omega, rfl, by simp, .inl ⟨rfl, by simp -implicitDefEqProofs (disch := (first | omega | (simp -implicitDefEqProofs only [szs, ne_eq] <;> omega) | fail)) only [go_sem, Nat.reduceAdd, Nat.reduceSub, Nat.reduceMul, Nat.reduceLT, Nat.reduceMod, Nat.reduceDiv, Nat.reduceEqDiff, Nat.reduceBEq, Nat.reduceLeDiff, ↓reduceIte, reduceCtorEq, Int.reduceAdd, Int.reduceSub, Int.reduceLT, Int.reduceLE, Int.reduceBEq, Int.reduceEq, Int.reduceToNat]⟩, fun b hb => by simp -implicitDefEqProofs (disch := (first | omega | (simp -implicitDefEqProofs only [szs, ne_eq] <;> omega) | fail)) only [go_sem, Nat.reduceAdd, Nat.reduceSub, Nat.reduceMul, Nat.reduceLT, Nat.reduceMod, Nat.reduceDiv, Nat.reduceEqDiff, Nat.reduceBEq, Nat.reduceLeDiff, ↓reduceIte, reduceCtorEq, Int.reduceAdd, Int.reduceSub, Int.reduceLT, Int.reduceLE, Int.reduceBEq, Int.reduceEq, Int.reduceToNat]⟩
  · rintro k ⟨⟨n, tr⟩, mks⟩ g ⟨hmk, hn, t0, t3, t13, i, hik, t14, hgn, hG, hold⟩
    simp only [Tm.get_mk] at hmk hn t0 t3 t13 t14
    subst hmk hn
    have hpg : PoolAt g bp L S := hp.old hold
    by_cases hi : i < S.n
    · by_cases ho : S.ho i = 0
      · simp -implicitDefEqProofs (disch := (first | omega | (simp -implicitDefEqProofs only [szs, ne_eq] <;> omega) | fail)) only [go_sem, Nat.reduceAdd, Nat.reduceSub, Nat.reduceMul, Nat.reduceLT, Nat.reduceMod, Nat.reduceDiv, Nat.reduceEqDiff, Nat.reduceBEq, Nat.reduceLeDiff, ↓reduceIte, reduceCtorEq, Int.reduceAdd, Int.reduceSub, Int.reduceLT, Int.reduceLE, Int.reduceBEq, Int.reduceEq, Int.reduceToNat, ir36_l0, t0, t3, t13, t14]
        refine GCall.of (of_no hpg trivial trivial i (fun e => e.2.2 (by simpa using ho))) ?_
        rintro v g2 ⟨rfl, hn2, hk2⟩
        obtain ⟨g3, e3, hn3, _, hk3⟩ := stF g2 0 0 0
        have hin : h.n ≤ g2.n := by omega
        simp -implicitDefEqProofs (disch := (first | omega | (simp -implicitDefEqProofs only [szs, ne_eq] <;> omega) | fail)) only [go_sem, Nat.reduceAdd, Nat.reduceSub, Nat.reduceMul, Nat.reduceLT, Nat.reduceMod, Nat.reduceDiv, Nat.reduceEqDiff, Nat.reduceBEq, Nat.reduceLeDiff, ↓reduceIte, reduceCtorEq, Int.reduceAdd, Int.reduceSub, Int.reduceLT, Int.reduceLE, Int.reduceBEq, Int.reduceEq, Int.reduceToNat, t0, t3, t13, t14, e3, hin]
        refine ⟨k - 1, by omega, i + 1, by omega, by simp, by omega, ?_, fun b hb => by rw [hk3 b (by omega), hk2 b (by omega), hold b hb]⟩
        simp only [heldL, ho, if_true, List.append_nil]
        exact (hG.keep hk2).keep hk3
      · simp -implicitDefEqProofs (disch := (first | omega | (simp -implicitDefEqProofs only [szs, ne_eq] <;> omega) | fail)) only [go_sem, Nat.reduceAdd, Nat.reduceSub, Nat.reduceMul, Nat.reduceLT, Nat.reduceMod, Nat.reduceDiv, Nat.reduceEqDiff, Nat.reduceBEq, Nat.reduceLeDiff, ↓reduceIte, reduceCtorEq, Int.reduceAdd, Int.reduceSub, Int.reduceLT, Int.reduceLE, Int.reduceBEq, Int.reduceEq, Int.reduceToNat, ir36_l0, t0, t3, t13, t14]
        refine GCall.of (of_yes hpg trivial trivial i hi ho) ?_
        rintro v g2 ⟨rfl, hn2, hk2⟩
        obtain ⟨g3, e3, hn3, ⟨st, hst, sz3, s0, s1, s2⟩, hk3⟩ := stF g2 i (S.ow i) (S.ho i)
        have hin : h.n ≤ g2.n := by omega
        have hG := (hG.keep hk2).keep hk3
        have hlt3' : h.n < g3.n := by omega
        rcases hG with ⟨hl, hg3⟩ | ⟨nb, n, c3, hg3, hs3, hro3, hc3, hln, hn0, hgb, hne, hlt3⟩
        · simp -implicitDefEqProofs (disch := (first | omega | (simp -implicitDefEqProofs only [szs, ne_eq] <;> omega) | fail)) only [go_sem, Nat.reduceAdd, Nat.reduceSub, Nat.reduceMul, Nat.reduceLT, Nat.reduceMod, Nat.reduceDiv, Nat.reduceEqDiff, Nat.reduceBEq, Nat.reduceLeDiff, ↓reduceIte, reduceCtorEq, Int.reduceAdd, Int.reduceSub, Int.reduceLT, Int.reduceLE, Int.reduceBEq, Int.reduceEq, Int.reduceToNat, t0, t3, t13, t14, e3, hin, hst, s0, s1, s2, hg3, appendV_of ap_93]
          rw [append_firstS (cx := Blk.of [V.int IntKind.i64 ↑i, V.int IntKind.i64 (S.ow i), V.int IntKind.i64 (S.ho i)]) (te := 46) (vs := rowF i (S.ow i) (S.ho i)) (by simp -implicitDefEqProofs (disch := (first | omega | (simp -implicitDefEqProofs only [szs, ne_eq] <;> omega) | fail)) only [go_sem, Nat.reduceAdd, Nat.reduceSub, Nat.reduceMul, Nat.reduceLT, Nat.reduceMod, Nat.reduceDiv, Nat.reduceEqDiff, Nat.reduceBEq, Nat.reduceLeDiff, ↓reduceIte, reduceCtorEq, Int.reduceAdd, Int.reduceSub, Int.reduceLT, Int.reduceLE, Int.reduceBEq, Int.reduceEq, Int.reduceToNat]) (by exact Nat.le_refl _) rfl (by omega)]
          simp -implicitDefEqProofs (disch := (first | omega | (simp -implicitDefEqProofs only [szs, ne_eq] <;> omega) | fail)) only [go_sem, Nat.reduceAdd, Nat.reduceSub, Nat.reduceMul, Nat.reduceLT, Nat.reduceMod, Nat.reduceDiv, Nat.reduceEqDiff, Nat.reduceBEq, Nat.reduceLeDiff, ↓reduceIte, reduceCtorEq, Int.reduceAdd, Int.reduceSub, Int.reduceLT, Int.reduceLE, Int.reduceBEq, Int.reduceEq, Int.reduceToNat, t0, t3, t13, t14, hg3, hin]
          refine ⟨k - 1, by omega, i + 1, by omega, by simp, by omega, ?_, fun b hb => ?_⟩
          · have hL : heldL S (i + 1) = rowF i (S.ow i) (S.ho i) := by simp only [heldL, hl, if_neg ho, List.nil_append]
            rw [hL]
            exact .inr ⟨g3.n + 1, 1, (Blk.of [V.slice none 0 0 true]).set 0 (V.slice (some (g3.n + 1, 0)) 1 1 false), by simp -implicitDefEqProofs (disch := (first | omega | (simp -implicitDefEqProofs only [szs, ne_eq] <;> omega) | fail)) only [go_sem, Nat.reduceAdd, Nat.reduceSub, Nat.reduceMul, Nat.reduceLT, Nat.reduceMod, Nat.reduceDiv, Nat.reduceEqDiff, Nat.reduceBEq, Nat.reduceLeDiff, ↓reduceIte, reduceCtorEq, Int.reduceAdd, Int.reduceSub, Int.reduceLT, Int.reduceLE, Int.reduceBEq, Int.reduceEq, Int.reduceToNat], rfl, rfl, rfl, rfl, by omega, by simp -implicitDefEqProofs (disch := (first | omega | (simp -implicitDefEqProofs only [szs, ne_eq] <;> omega) | fail)) only [go_sem, Nat.reduceAdd, Nat.reduceSub, Nat.reduceMul, Nat.reduceLT, Nat.reduceMod, Nat.reduceDiv, Nat.reduceEqDiff, Nat.reduceBEq, Nat.reduceLeDiff, ↓reduceIte, reduceCtorEq, Int.reduceAdd, Int.reduceSub, Int.reduceLT, Int.reduceLE, Int.reduceBEq, Int.reduceEq, Int.reduceToNat], by omega, by omega⟩
          · simp -implicitDefEqProofs (disch := (first | omega | (simp -implicitDefEqProofs only [szs, ne_eq] <;> omega) | fail)) only [go_sem, Nat.reduceAdd, Nat.reduceSub, Nat.reduceMul, Nat.reduceLT, Nat.reduceMod, Nat.reduceDiv, Nat.reduceEqDiff, Nat.reduceBEq, Nat.reduceLeDiff, ↓reduceIte, reduceCtorEq, Int.reduceAdd, Int.reduceSub, Int.reduceLT, Int.reduceLE, Int.reduceBEq, Int.reduceEq, Int.reduceToNat]
            rw [hk3 b (by omega), hk2 b (by omega), hold b hb]
        · have hnl := heldL_len S i
          have hlt4 := Heap.lt_of_get hgb
          simp -implicitDefEqProofs (disch := (first | omega | (simp -implicitDefEqProofs only [szs, ne_eq] <;> omega) | fail)) only [go_sem, Nat.reduceAdd, Nat.reduceSub, Nat.reduceMul, Nat.reduceLT, Nat.reduceMod, Nat.reduceDiv, Nat.reduceEqDiff, Nat.reduceBEq, Nat.reduceLeDiff, ↓reduceIte, reduceCtorEq, Int.reduceAdd, Int.reduceSub, Int.reduceLT, Int.reduceLE, Int.reduceBEq, Int.reduceEq, Int.reduceToNat, t0, t3, t13, t14, e3, hin, hst, s0, s1, s2, hg3, hc3, appendV_of ap_93]
          rw [append_nextS (cx := Blk.of [V.int IntKind.i64 ↑i, V.int IntKind.i64 (S.ow i), V.int IntKind.i64 (S.ho i)]) (te := 46) (vs := rowF i (S.ow i) (S.ho i)) (l := heldL S i) (by simp -implicitDefEqProofs (disch := (first | omega | (simp -implicitDefEqProofs only [szs, ne_eq] <;> omega) | fail)) only [go_sem, Nat.reduceAdd, Nat.reduceSub, Nat.reduceMul, Nat.reduceLT, Nat.reduceMod, Nat.reduceDiv, Nat.reduceEqDiff, Nat.reduceBEq, Nat.reduceLeDiff, ↓reduceIte, reduceCtorEq, Int.reduceAdd, Int.reduceSub, Int.reduceLT, Int.reduceLE, Int.reduceBEq, Int.reduceEq, Int.reduceToNat]) (by exact Nat.le_refl _) rfl rfl hln (by simp -implicitDefEqProofs (disch := (first | omega | (simp -implicitDefEqProofs only [szs, ne_eq] <;> omega) | fail)) only [go_sem, Nat.reduceAdd, Nat.reduceSub, Nat.reduceMul, Nat.reduceLT, Nat.reduceMod, Nat.reduceDiv, Nat.reduceEqDiff, Nat.reduceBEq, Nat.reduceLeDiff, ↓reduceIte, reduceCtorEq, Int.reduceAdd, Int.reduceSub, Int.reduceLT, Int.reduceLE, Int.reduceBEq, Int.reduceEq, Int.reduceToNat]; exact hgb) (by omega) (by omega)]
          have hnb : h.n ≤ nb := by omega
          simp -implicitDefEqProofs (disch := (first | omega | (simp -implicitDefEqProofs only [szs, ne_eq] <;> omega) | fail)) only [go_sem, Nat.reduceAdd, Nat.reduceSub, Nat.reduceMul, Nat.reduceLT, Nat.reduceMod, Nat.reduceDiv, Nat.reduceEqDiff, Nat.reduceBEq, Nat.reduceLeDiff, ↓reduceIte, reduceCtorEq, Int.reduceAdd, Int.reduceSub, Int.reduceLT, Int.reduceLE, Int.reduceBEq, Int.reduceEq, Int.reduceToNat, t0, t3, t13, t14, hg3, hin, hro3, hnb]
          have hL : heldL S (i + 1) = heldL S i ++ rowF i (S.ow i) (S.ho i) := by simp only [heldL, if_neg ho]
          refine ⟨k - 1, by omega, i + 1, by omega, by simp, by omega, ?_, fun b hb => ?_⟩
          · rw [hL]
            exact .inr ⟨g3.n + 1, n + 1, c3.set 0 (V.slice (some (g3.n + 1, 0)) (n + 1) (n + 1) false), by simp -implicitDefEqProofs (disch := (first | omega | (simp -implicitDefEqProofs only [szs, ne_eq] <;> omega) | fail)) only [go_sem, Nat.reduceAdd, Nat.reduceSub, Nat.reduceMul, Nat.reduceLT, Nat.reduceMod, Nat.reduceDiv, Nat.reduceEqDiff, Nat.reduceBEq, Nat.reduceLeDiff, ↓reduceIte, reduceCtorEq, Int.reduceAdd, Int.reduceSub, Int.reduceLT, Int.reduceLE, Int.reduceBEq, Int.reduceEq, Int.reduceToNat], by rw [Blk.size_set]; exact hs3, by rw [Blk.ro_set]; exact hro3, by simp -implicitDefEqProofs (disch := (first | omega | (simp -implicitDefEqProofs only [szs, ne_eq] <;> omega) | fail)) only [go_sem, Nat.reduceAdd, Nat.reduceSub, Nat.reduceMul, Nat.reduceLT, Nat.reduceMod, Nat.reduceDiv, Nat.reduceEqDiff, Nat.reduceBEq, Nat.reduceLeDiff, ↓reduceIte, reduceCtorEq, Int.reduceAdd, Int.reduceSub, Int.reduceLT, Int.reduceLE, Int.reduceBEq, Int.reduceEq, Int.reduceToNat], by rw [List.length_append]; simp only [rowF, List.length_cons, List.length_nil]; omega, by omega, by simp -implicitDefEqProofs (disch := (first | omega | (simp -implicitDefEqProofs only [szs, ne_eq] <;> omega) | fail)) only [go_sem, Nat.reduceAdd, Nat.reduceSub, Nat.reduceMul, Nat.reduceLT, Nat.reduceMod, Nat.reduceDiv, Nat.reduceEqDiff, Nat.reduceBEq, Nat.reduceLeDiff, ↓reduceIte, reduceCtorEq, Int.reduceAdd, Int.reduceSub, Int.reduceLT, Int.reduceLE, Int.reduceBEq, Int.reduceEq, Int.reduceToNat], by omega, by omega⟩
          · simp -implicitDefEqProofs (disch := (first | omega | (simp -implicitDefEqProofs only [szs, ne_eq] <;> omega) | fail)) only [go_sem, Nat.reduceAdd, Nat.reduceSub, Nat.reduceMul, Nat.reduceLT, Nat.reduceMod, Nat.reduceDiv, Nat.reduceEqDiff, Nat.reduceBEq, Nat.reduceLeDiff, ↓reduceIte, reduceCtorEq, Int.reduceAdd, Int.reduceSub, Int.reduceLT, Int.reduceLE, Int.reduceBEq, Int.reduceEq, Int.reduceToNat]
            rw [hk3 b (by omega), hk2 b (by omega), hold b hb]
    · have : i = S.n := by omega
      subst this
      simp -implicitDefEqProofs (disch := (first | omega | (simp -implicitDefEqProofs only [szs, ne_eq] <;> omega) | fail)) only [go_sem, Nat.reduceAdd, Nat.reduceSub, Nat.reduceMul, Nat.reduceLT, Nat.reduceMod, Nat.reduceDiv, Nat.reduceEqDiff, Nat.reduceBEq, Nat.reduceLeDiff, ↓reduceIte, reduceCtorEq, Int.reduceAdd, Int.reduceSub, Int.reduceLT, Int.reduceLE, Int.reduceBEq, Int.reduceEq, Int.reduceToNat, ir36_l0, t0, t3, t13, t14]
      exact ⟨hgn, hG, hold⟩
end Go.Proofs.Ytfgdpgagcnelpaa

namespace Go.Proofs.Ytfgdpgagcnelpaa
open Go Go.Vm
theorem getD_row {F : List V} {j : Nat} (h : j * 3 + 3 ≤ F.length) : ∃ a b c, (F.drop (j * 3)).take 3 = [a, b, c] ∧ (Blk.of F).get (j * 3) = a ∧ (Blk.of F).get (j * 3 + 1) = b ∧ (Blk.of F).get (j * 3 + 2) = c := by
  refine ⟨F.getD (j * 3) undefV, F.getD (j * 3 + 1) undefV, F.getD (j * 3 + 2) undefV, ?_, Blk.get_of _ _ (by omega), Blk.get_of _ _ (by omega), Blk.get_of _ _ (by omega)⟩
  rw [List.drop_eq_getElem_cons (i := j * 3) (by omega), List.drop_eq_getElem_cons (i := j * 3 + 1) (by omega), List.drop_eq_getElem_cons (i := j * 3 + 1 + 1) (by omega), List.take_succ_cons, List.take_succ_cons, List.take_succ_cons, List.take_zero]
  simp [List.getD, show j * 3 < F.length by omega, show j * 3 + 1 < F.length by omega, show j * 3 + 1 + 1 < F.length by omega, show j * 3 + 2 < F.length by omega]
theorem seq54 {ha h : Heap} {b3 l : Nat} {F : List V} {nn : Nat} {W : Set'} (I : Nat → Heap → Prop) (hF : nn * 3 = F.length) (hbig : nn ≤ 65536) (hone : ∀ i, i < F.length → ∃ k n, F.getD i undefV = .int k n) (hg : GatherAt ha b3 F) (hI0 : I 0 h)
    (hkeep : ∀ j g g', I j g → g.n ≤ g'.n → (∀ b, b < g.n → g'.get b = g.get b) → I j g')
    (hfix : ∀ j g, I j g → ha.n ≤ g.n ∧ h.n ≤ g.n ∧ ∀ b, b3 ≤ b → b < ha.n → g.get b = ha.get b)
    (hround : ∀ j g, j < nn → I j g → SY ⟨Try.prog, true⟩ l [.agg ((F.drop (j * 3)).take 3)] g (fun _ => True) (fun b => h.n ≤ b ∨ W b) (fun v g' => v = .bool true ∧ I (j + 1) g')) :
    SF ⟨Try.prog, true⟩ 54 [.yield l, .ptr (some (b3, 0))] h (fun _ => True) W fun _ g => I nn g := by
  refine SF.go hm Try.func54 ir54_eq ?_
  obtain ⟨hx1, _, hx2⟩ := hfix 0 h hI0
  have hb3 : b3 < ha.n := by
    rcases hg with ⟨_, e⟩ | ⟨_, _, _, e, _⟩ <;> exact Heap.lt_of_get e
  have hgb := hx2 b3 (Nat.le_refl _) hb3
  have hsl : ∃ sv : V, (∃ c : Blk, ha.get b3 = some (.cells c 93) ∧ 1 ≤ c.size ∧ c.get 0 = sv) ∧ lenV Try.prog 93 sv h = some (nn, []) ∧ (0 < nn → ∃ nb, sv = .slice (some (nb, 0)) nn nn false ∧ ha.get nb = some (.cells (Blk.of F) 46) ∧ b3 < nb) := by
    rcases hg with ⟨rfl, e⟩ | ⟨nb, n, c, e, hs, _, hc, hn, h0, hnb, _, hlt⟩
    · have : nn = 0 := by simp at hF; omega
      subst this
      exact ⟨_, ⟨_, e, Nat.le_refl _, rfl⟩, by simp [lenV, Blk.get, Blk.of, layGet, Tr.get_nil], by omega⟩
    · have : n = nn := by omega
      subst this
      exact ⟨_, ⟨_, e, by omega, hc⟩, by simp [lenV], fun _ => ⟨nb, rfl, hnb, hlt⟩⟩
  obtain ⟨sv, ⟨c, e3, hs, hc⟩, hlen, hsv⟩ := hsl
  rw [e3] at hgb
  simp -implicitDefEqProofs (disch := (first | omega | (simp -implicitDefEqProofs only [szs, ne_eq] <;> omega) | fail)) only [go_sem, Nat.reduceAdd, Nat.reduceSub, Nat.reduceMul, Nat.reduceLT, Nat.reduceMod, Nat.reduceDiv, Nat.reduceEqDiff, Nat.reduceBEq, Nat.reduceLeDiff, ↓reduceIte, reduceCtorEq, Int.reduceAdd, Int.reduceSub, Int.reduceLT, Int.reduceLE, Int.reduceBEq, Int.reduceEq, Int.reduceToNat, ir54, hgb, hc, ↓hlen]
  refine GLoop.inv hm (fun k f g => f.mks = [] ∧ f.tm.n = 16 ∧ f.tm.get 0 = some (.yield l) ∧ f.tm.get 5 = some sv ∧ f.tm.get 6 = some (.int .i64 nn) ∧ ∃ j : Nat, j + k = nn ∧ f.tm.get 7 = some (.int .i64 j) ∧ I j g) nn ?_ ?_
  · exact ⟨rfl, rfl, rfl, rfl, rfl, 0, by omega, rfl, hI0⟩
  · rintro k ⟨⟨n, tr⟩, mks⟩ g ⟨hmk, hn, t0, t5, t6, j, hjk, t7, hI⟩
    simp only [Tm.get_mk] at hmk hn t0 t5 t6 t7
    subst hmk hn
    by_cases hj : j < nn
    · obtain ⟨nb, rfl, hnb, hlt⟩ := hsv (by omega)
      obtain ⟨hg1, hg2, hg3⟩ := hfix j g hI
      have hnb' : g.get nb = some (.cells (Blk.of F) 46) := by rw [hg3 nb (by omega) (Heap.lt_of_get hnb)]; exact hnb
      obtain ⟨x, y, z, hrow, rx, ry, rz⟩ := getD_row (F := F) (j := j) (by omega)
      have hr := hround j
      rw [hrow] at hr
      have ox : x.one = true := by obtain ⟨k, n, e⟩ := hone (j * 3) (by omega); rw [← Blk.get_of _ _ (by omega), rx] at e; rw [e]; rfl
      have oy : y.one = true := by obtain ⟨k, n, e⟩ := hone (j * 3 + 1) (by omega); rw [← Blk.get_of _ _ (by omega), ry] at e; rw [e]; rfl
      have oz : z.one = true := by obtain ⟨k, n, e⟩ := hone (j * 3 + 2) (by omega); rw [← Blk.get_of _ _ (by omega), rz] at e; rw [e]; rfl
      have hlt9 := Heap.lt_of_get hnb'
      simp -implicitDefEqProofs (disch := (first | omega | (simp -implicitDefEqProofs only [szs, ne_eq] <;> omega) | fail)) only [go_sem, Nat.reduceAdd, Nat.reduceSub, Nat.reduceMul, Nat.reduceLT, Nat.reduceMod, Nat.reduceDiv, Nat.reduceEqDiff, Nat.reduceBEq, Nat.reduceLeDiff, ↓reduceIte, reduceCtorEq, Int.reduceAdd, Int.reduceSub, Int.reduceLT, Int.reduceLE, Int.reduceBEq, Int.reduceEq, Int.reduceToNat, ir54_l0, t0, t5, t6, t7, hnb', rx, ry, rz, ↓ox, ↓oy, ↓oz, hg2]
      refine GYield.of (hr _ hj (hkeep j g _ hI (by simp) (fun b hb => by simp -implicitDefEqProofs (disch := (first | omega | (simp -implicitDefEqProofs only [szs, ne_eq] <;> omega) | fail)) only [go_sem, Nat.reduceAdd, Nat.reduceSub, Nat.reduceMul, Nat.reduceLT, Nat.reduceMod, Nat.reduceDiv, Nat.reduceEqDiff, Nat.reduceBEq, Nat.reduceLeDiff, ↓reduceIte, reduceCtorEq, Int.reduceAdd, Int.reduceSub, Int.reduceLT, Int.reduceLE, Int.reduceBEq, Int.reduceEq, Int.reduceToNat]))) ?_
      rintro v g' ⟨rfl, hI'⟩
      simp -implicitDefEqProofs (disch := (first | omega | (simp -implicitDefEqProofs only [szs, ne_eq] <;> omega) | fail)) only [go_sem, Nat.reduceAdd, Nat.reduceSub, Nat.reduceMul, Nat.reduceLT, Nat.reduceMod, Nat.reduceDiv, Nat.reduceEqDiff, Nat.reduceBEq, Nat.reduceLeDiff, ↓reduceIte, reduceCtorEq, Int.reduceAdd, Int.reduceSub, Int.reduceLT, Int.reduceLE, Int.reduceBEq, Int.reduceEq, Int.reduceToNat, t0, t5, t6, t7]
      exact ⟨k - 1, by omega, j + 1, by omega, by simp, hI'⟩
    · have : j = nn := by omega
      subst this
      simp -implicitDefEqProofs (disch := (first | omega | (simp -implicitDefEqProofs only [szs, ne_eq] <;> omega) | fail)) only [go_sem, Nat.reduceAdd, Nat.reduceSub, Nat.reduceMul, Nat.reduceLT, Nat.reduceMod, Nat.reduceDiv, Nat.reduceEqDiff, Nat.reduceBEq, Nat.reduceLeDiff, ↓reduceIte, reduceCtorEq, Int.reduceAdd, Int.reduceSub, Int.reduceLT, Int.reduceLE, Int.reduceBEq, Int.reduceEq, Int.reduceToNat, ir54_l0, t0, t5, t6, t7]
      exact hI
end Go.Proofs.Ytfgdpgagcnelpaa

namespace Go.Proofs.Ytfgdpgagcnelpaa
open Go Go.Vm
def heldI (S : PS) : Nat → List Nat
  | 0 => []
  | k + 1 => heldI S k ++ if S.ho k = 0 then [] else [k]
theorem heldI_lt (S : PS) : ∀ k x, x ∈ heldI S k → x < k ∧ S.ho x ≠ 0
  | 0, x, h => by simp [heldI] at h
  | k + 1, x, h => by
    simp only [heldI, List.mem_append] at h
    rcases h with h | h
    · have := heldI_lt S k x h; exact ⟨by omega, this.2⟩
    · split at h
      · cases h
      · rename_i e
        have : x = k := by simpa using h
        subst this; exact ⟨by omega, e⟩
theorem heldI_nodup (S : PS) : ∀ k, (heldI S k).Nodup
  | 0 => by simp [heldI]
  | k + 1 => by
    simp only [heldI]
    split
    · simpa using heldI_nodup S k
    · rw [List.nodup_append]
      refine ⟨heldI_nodup S k, by simp, fun a ha b hb => ?_⟩
      have := (heldI_lt S k a ha).1
      have : b = k := by simpa using hb
      omega
def rowOf (S : PS) (x : Nat) : List V := rowF x (S.ow x) (S.ho x)
theorem heldL_flat (S : PS) : ∀ k, heldL S k = (heldI S k).flatMap (rowOf S)
  | 0 => rfl
  | k + 1 => by
    simp only [heldL, heldI, heldL_flat S k, List.flatMap_append]
    split <;> simp [rowOf]
theorem flat_len (f : Nat → List V) (hf : ∀ x, (f x).length = 3) : ∀ l : List Nat, (l.flatMap f).length = l.length * 3
  | [] => rfl
  | x :: r => by simp only [List.flatMap_cons, List.length_append, hf, flat_len f hf r, List.length_cons]; omega
theorem flat_row (f : Nat → List V) (hf : ∀ x, (f x).length = 3) : ∀ (l : List Nat) (j x : Nat), l[j]? = some x → ((l.flatMap f).drop (j * 3)).take 3 = f x
  | [], j, x, h => by simp at h
  | y :: r, 0, x, h => by
    simp at h; subst h
    simp only [List.flatMap_cons, Nat.zero_mul, List.drop_zero]
    rw [List.take_append_of_le_length (by rw [hf]; omega), List.take_of_length_le (by rw [hf]; omega)]
  | y :: r, j + 1, x, h => by
    simp only [List.getElem?_cons_succ] at h
    simp only [List.flatMap_cons]
    rw [show (j + 1) * 3 = (f y).length + j * 3 by rw [hf]; omega, List.drop_append]
    rw [List.drop_of_length_le (l := f y) (by omega), List.nil_append, Nat.add_sub_cancel_left]
    exact flat_row f hf r j x h
theorem flat_int (S : PS) (l : List Nat) : ∀ i, i < (l.flatMap (rowOf S)).length → ∃ k n, (l.flatMap (rowOf S)).getD i undefV = .int k n := by
  have : ∀ v ∈ l.flatMap (rowOf S), ∃ k n, v = .int k n := fun v hv => by
    simp only [List.mem_flatMap, rowOf, rowF] at hv
    obtain ⟨x, _, hv⟩ := hv
    simp at hv
    rcases hv with rfl | rfl | rfl <;> exact ⟨_, _, rfl⟩
  intro i hi
  have h2 : (l.flatMap (rowOf S)).getD i undefV = (l.flatMap (rowOf S))[i] := by rw [List.getD_eq_getElem?_getD, List.getElem?_eq_getElem hi]; rfl
  rw [h2]
  exact this _ (List.getElem_mem hi)
structure DI (h0 ha : Heap) (tr : Tr V) (bp : Nat) (L : PL) (S : PS) (j : Nat) (g : Heap) : Prop where
  n : ha.n + 2 ≤ g.n
  mark : g.get ha.n = some (.deferred true)
  loop : g.get (ha.n + 1) = some (.loop ⟨.ready, none, ⟨36, tr⟩, [19], (rc21 0).1, (rc21 0).2, ha.n⟩)
  old : ∀ b, h0.n ≤ b → b < ha.n → b ≠ h0.n + 2 → g.get b = ha.get b
  cnt : ∃ c x, g.get (h0.n + 2) = some (.cells c 3) ∧ c.size = 1 ∧ c.ro = false ∧ c.get 0 = .int .i64 x ∧ 0 ≤ x ∧ x ≤ j
  pool : ∃ S', PoolAt g bp L S' ∧ WF S' ∧ S'.n = S.n ∧ S'.na = S.na ∧ S'.qu = S.qu ∧ (∀ x, S'.ow x = S.ow x) ∧ ∀ x, x ∈ (heldI S S.n).drop j → S'.ho x = S.ho x
/-- What Drops' rounds stand on. -/
structure DK (h0 ha : Heap) (tr : Tr V) (bp : Nat) (L : PL) (k : Int) : Prop where
  hn : h0.n + 3 < ha.n
  t2 : tr.get 2 = some (.ptr (some (h0.n, 0)))
  t3 : tr.get 3 = some (.ptr (some (h0.n + 1, 0)))
  t6 : tr.get 6 = some (.ptr (some (h0.n + 2, 0)))
  b0 : ha.get h0.n = some (.cells (Blk.of [.ptr (some (bp, 0))]) 23)
  b1 : ha.get (h0.n + 1) = some (.cells (Blk.of [.int .i64 k]) 3)
  bp : bp < h0.n
  fb : L.fb < h0.n
  ub : L.ub < h0.n
  qb : L.qb < h0.n
theorem DI.keep {h0 ha : Heap} {tr : Tr V} {bp : Nat} {L : PL} {S : PS} {k : Int} (kk : DK h0 ha tr bp L k) {j : Nat} {g g' : Heap} (d : DI h0 ha tr bp L S j g) (hn : g.n ≤ g'.n) (hk : ∀ b, b < g.n → g'.get b = g.get b) : DI h0 ha tr bp L S j g' := by
  have h1 := d.n
  have h2 := kk.hn
  refine ⟨by omega, by rw [hk _ (by omega)]; exact d.mark, by rw [hk _ (by omega)]; exact d.loop, fun b hb hb2 hb3 => by rw [hk _ (by omega)]; exact d.old b hb hb2 hb3, ?_, ?_⟩
  · obtain ⟨c, x, e, r⟩ := d.cnt
    exact ⟨c, x, by rw [hk _ (by omega)]; exact e, r⟩
  · obtain ⟨S', hp, r⟩ := d.pool
    exact ⟨S', hp.old hk, r⟩
theorem heldI_len (S : PS) : ∀ k, (heldI S k).length ≤ k
  | 0 => by simp [heldI]
  | k + 1 => by
    have := heldI_len S k
    simp only [heldI, List.length_append]
    split <;> simp <;> omega
theorem DI.next {h0 ha : Heap} {tr : Tr V} {bp : Nat} {L : PL} {S : PS} {k : Int} (kk : DK h0 ha tr bp L k) {j : Nat} {g g' : Heap} (d : DI h0 ha tr bp L S j g) (hn : g.n ≤ g'.n) (hl : g'.get (ha.n + 1) = some (.loop ⟨.ready, none, ⟨36, tr⟩, [19], (rc21 0).1, (rc21 0).2, ha.n⟩)) (hk : ∀ b, b < g.n → b ≠ ha.n + 1 → g'.get b = g.get b) : DI h0 ha tr bp L S (j + 1) g' := by
  have h1 := d.n
  have h2 := kk.hn
  have hbp := kk.bp
  have hfb := kk.fb
  have hub := kk.ub
  have hqb := kk.qb
  refine ⟨by omega, by rw [hk _ (by omega) (by omega)]; exact d.mark, hl, fun b hb hb2 hb3 => by rw [hk _ (by omega) (by omega)]; exact d.old b hb hb2 hb3, ?_, ?_⟩
  · obtain ⟨c, x, e, r1, r2, r3, r4, r5⟩ := d.cnt
    exact ⟨c, x, by rw [hk _ (by omega) (by omega)]; exact e, r1, r2, r3, r4, by omega⟩
  · obtain ⟨S', hp, r1, r2, r3, r4, r5, r6⟩ := d.pool
    refine ⟨S', hp.same' (hk _ (by omega) (by omega)) (hk _ (by omega) (by omega)) (hk _ (by omega) (by omega)) (hk _ (by omega) (by omega)), r1, r2, r3, r4, r5, fun x hx => r6 x ?_⟩
    rw [← List.drop_drop] at hx
    exact List.mem_of_mem_drop hx
theorem drH (g : Heap) (l : Nat) (hl : l < g.n) (x y z : Int) (o : O) : ∃ h2, ((g.push (O.cells (Blk.of [V.int IntKind.i64 0, V.int IntKind.i64 0, V.int IntKind.i64 0]) 46)).set g.n
      (O.cells ((((Blk.of [V.int IntKind.i64 0, V.int IntKind.i64 0, V.int IntKind.i64 0]).set 0 (V.int IntKind.i64 x)).set 1 (V.int IntKind.i64 y)).set 2 (V.int IntKind.i64 z)) 46)).set l o = h2 ∧ h2.n = g.n + 1 ∧ h2.get l = some o ∧ ∀ b, b < g.n → b ≠ l → h2.get b = g.get b := by
  refine ⟨_, rfl, by simp, by simp -implicitDefEqProofs (disch := (first | omega | (simp -implicitDefEqProofs only [szs, ne_eq] <;> omega) | fail)) only [go_sem, Nat.reduceAdd, Nat.reduceSub, Nat.reduceMul, Nat.reduceLT, Nat.reduceMod, Nat.reduceDiv, Nat.reduceEqDiff, Nat.reduceBEq, Nat.reduceLeDiff, ↓reduceIte, reduceCtorEq, Int.reduceAdd, Int.reduceSub, Int.reduceLT, Int.reduceLE, Int.reduceBEq, Int.reduceEq, Int.reduceToNat], fun b hb hb2 => by simp -implicitDefEqProofs (disch := (first | omega | (simp -implicitDefEqProofs only [szs, ne_eq] <;> omega) | fail)) only [go_sem, Nat.reduceAdd, Nat.reduceSub, Nat.reduceMul, Nat.reduceLT, Nat.reduceMod, Nat.reduceDiv, Nat.reduceEqDiff, Nat.reduceBEq, Nat.reduceLeDiff, ↓reduceIte, reduceCtorEq, Int.reduceAdd, Int.reduceSub, Int.reduceLT, Int.reduceLE, Int.reduceBEq, Int.reduceEq, Int.reduceToNat]⟩
theorem drI (g : Heap) (c l : Nat) (hc : c < g.n) (hl : l < g.n) (hne : c ≠ l) (o p : O) : ∃ h2, (g.set c o).set l p = h2 ∧ h2.n = g.n ∧ h2.get l = some p ∧ h2.get c = some o ∧ ∀ b, b ≠ c → b ≠ l → h2.get b = g.get b := by
  refine ⟨_, rfl, by simp, by simp -implicitDefEqProofs (disch := (first | omega | (simp -implicitDefEqProofs only [szs, ne_eq] <;> omega) | fail)) only [go_sem, Nat.reduceAdd, Nat.reduceSub, Nat.reduceMul, Nat.reduceLT, Nat.reduceMod, Nat.reduceDiv, Nat.reduceEqDiff, Nat.reduceBEq, Nat.reduceLeDiff, ↓reduceIte, reduceCtorEq, Int.reduceAdd, Int.reduceSub, Int.reduceLT, Int.reduceLE, Int.reduceBEq, Int.reduceEq, Int.reduceToNat], by simp -implicitDefEqProofs (disch := (first | omega | (simp -implicitDefEqProofs only [szs, ne_eq] <;> omega) | fail)) only [go_sem, Nat.reduceAdd, Nat.reduceSub, Nat.reduceMul, Nat.reduceLT, Nat.reduceMod, Nat.reduceDiv, Nat.reduceEqDiff, Nat.reduceBEq, Nat.reduceLeDiff, ↓reduceIte, reduceCtorEq, Int.reduceAdd, Int.reduceSub, Int.reduceLT, Int.reduceLE, Int.reduceBEq, Int.reduceEq, Int.reduceToNat], fun b hb hb2 => ?_⟩
  rw [Heap.get_set _ _ _ _ (by simpa using hl), if_neg hb2, Heap.get_set _ _ _ _ hc, if_neg hb]
end Go.Proofs.Ytfgdpgagcnelpaa

namespace Go.Proofs.Ytfgdpgagcnelpaa
open Go Go.Vm
theorem heldL_len2 (S : PS) (k : Nat) : (heldI S k).length * 3 = (heldL S k).length := by
  rw [heldL_flat, flat_len _ (fun x => rfl)]
theorem PoolAt.set2 {g : Heap} {bp : Nat} {L : PL} {S : PS} (hp : PoolAt g bp L S) {a b : Nat} (o p : O) (ha : a < g.n) (hb : b < g.n) (h1 : bp ≠ a) (h2 : bp ≠ b) (h3 : L.fb ≠ a) (h4 : L.fb ≠ b) (h5 : L.qb ≠ a) (h6 : L.qb ≠ b) (h7 : L.ub ≠ a) (h8 : L.ub ≠ b) : PoolAt ((g.set a o).set b p) bp L S := by
  have key : ∀ x, x ≠ a → x ≠ b → ((g.set a o).set b p).get x = g.get x := fun x e1 e2 => by
    rw [Heap.get_set _ _ _ _ (by simpa using hb), if_neg e2, Heap.get_set _ _ _ _ ha, if_neg e1]
  exact hp.same' (key _ h1 h2) (key _ h3 h4) (key _ h5 h6) (key _ h7 h8)
end Go.Proofs.Ytfgdpgagcnelpaa
