/- The pool: what any call leaves. -/
import Derived.Test.YtfgdpgagcnelpaaH3
import Derived.Test.YtfgdpgagcnelpaaH4
set_option linter.unusedVariables false
set_option linter.unusedSimpArgs false
set_option linter.unusedSimpArgs false
set_option maxRecDepth 100000
set_option linter.unusedVariables false
set_option linter.unusedSimpArgs false
namespace Go.Proofs.Ytfgdpgagcnelpaa
open Go Go.Vm

theorem PoolAt.same' {h h' : Heap} {bp : Nat} {L : PL} {S : PS} (hp : PoolAt h bp L S) (k0 : h'.get bp = h.get bp) (k1 : h'.get L.fb = h.get L.fb) (k2 : h'.get L.qb = h.get L.qb) (k3 : h'.get L.ub = h.get L.ub) : PoolAt h' bp L S :=
  ⟨hp.pos, by rw [k0]; exact hp.p, by rw [k1]; exact hp.f, by rw [k2]; exact hp.q, by rw [k3]; exact hp.u, hp.ne, hp.lo⟩
theorem PoolAt.old {h h' : Heap} {bp : Nat} {L : PL} {S : PS} (hp : PoolAt h bp L S) (hk : ∀ b, b < h.n → h'.get b = h.get b) : PoolAt h' bp L S := by
  obtain ⟨c, h1, _⟩ := hp.p
  obtain ⟨d, h2, _⟩ := hp.f
  obtain ⟨q, h3, _⟩ := hp.q
  obtain ⟨u, h4, _⟩ := hp.u
  exact hp.same' (hk _ (Heap.lt_of_get h1)) (hk _ (Heap.lt_of_get h2)) (hk _ (Heap.lt_of_get h3)) (hk _ (Heap.lt_of_get h4))
theorem PoolAt.push {h : Heap} {bp : Nat} {L : PL} {S : PS} (hp : PoolAt h bp L S) (o : O) : PoolAt (h.push o) bp L S :=
  hp.old fun b hb => by rw [Heap.get_push, if_neg (by omega)]
theorem WF.new {n m : Nat} {g : Nat → Int} (hn : n ≤ 256) (hq : okQ m g) (hs : sumTo g m ≤ n) : WF (PS.new n m g) := by
  refine ⟨fun i _ => by simp [PS.new], fun i _ h => by simp [PS.new] at h, fun a _ => ?_, fun a ha => by simpa [PS.new] using (hq a ha).1, fun a ha => (hq a ha).2, hs, hn⟩
  simp only [PS.new]
  have : ∀ n, cnt (fun i => decide ((0 : Int) ≠ 0 ∧ (0 : Int) = (a : Nat))) n = 0 := fun n => by
    induction n with
    | zero => rfl
    | succ k ih => simp only [cnt, ih]; simp
  exact (this n).symm
theorem WF.put {S : PS} (w : WF S) (i j m : Nat) (g : Nat → Int) : WF (S.put i j m g) := ⟨w.ho, w.ow, w.us, w.le, w.qu, w.sum, w.n⟩
theorem page_no {h : Heap} {R W : Set'} {bp : Nat} {L : PL} {S : PS} (hp : PoolAt h bp L S) (hR : R bp) (hRf : R L.fb) (k : Int) (hk : ¬ Owned S k) :
    SF Try.prog 15 [.ptr (some (bp, 0)), .int .i64 k] h R W fun v h' => v = .tuple [.slice none 0 0 true, .int .i64 6] ∧ h' = h := by
  refine SF.go hm Try.func15 ir15_eq ?_
  simp -implicitDefEqProofs (disch := (first | omega | (simp -implicitDefEqProofs only [szs, ne_eq] <;> omega) | fail)) only [go_sem, Nat.reduceAdd, Nat.reduceSub, Nat.reduceMul, Nat.reduceLT, Nat.reduceMod, Nat.reduceDiv, Nat.reduceEqDiff, Nat.reduceBEq, Nat.reduceLeDiff, ↓reduceIte, reduceCtorEq, Int.reduceAdd, Int.reduceSub, Int.reduceLT, Int.reduceLE, Int.reduceBEq, Int.reduceEq, Int.reduceToNat, ir15]
  refine GCall.of (at_no hp (.inr hR) (.inr hRf) k hk) ?_
  rintro v h' ⟨rfl, rfl⟩
  simp -implicitDefEqProofs (disch := (first | omega | (simp -implicitDefEqProofs only [szs, ne_eq] <;> omega) | fail)) only [go_sem, Nat.reduceAdd, Nat.reduceSub, Nat.reduceMul, Nat.reduceLT, Nat.reduceMod, Nat.reduceDiv, Nat.reduceEqDiff, Nat.reduceBEq, Nat.reduceLeDiff, ↓reduceIte, reduceCtorEq, Int.reduceAdd, Int.reduceSub, Int.reduceLT, Int.reduceLE, Int.reduceBEq, Int.reduceEq, Int.reduceToNat]
theorem drop_no {h : Heap} {R W : Set'} {bp : Nat} {L : PL} {S : PS} (hp : PoolAt h bp L S) (hR : R bp) (hRf : R L.fb) (k : Int) (hk : ¬ Owned S k) :
    SF Try.prog 13 [.ptr (some (bp, 0)), .int .i64 k] h R W fun v h' => v = .tuple [.bool false, .int .i64 6] ∧ h' = h := by
  refine SF.go hm Try.func13 ir13_eq ?_
  simp -implicitDefEqProofs (disch := (first | omega | (simp -implicitDefEqProofs only [szs, ne_eq] <;> omega) | fail)) only [go_sem, Nat.reduceAdd, Nat.reduceSub, Nat.reduceMul, Nat.reduceLT, Nat.reduceMod, Nat.reduceDiv, Nat.reduceEqDiff, Nat.reduceBEq, Nat.reduceLeDiff, ↓reduceIte, reduceCtorEq, Int.reduceAdd, Int.reduceSub, Int.reduceLT, Int.reduceLE, Int.reduceBEq, Int.reduceEq, Int.reduceToNat, ir13]
  refine GCall.of (at_no hp (.inr hR) (.inr hRf) k hk) ?_
  rintro v h' ⟨rfl, rfl⟩
  simp -implicitDefEqProofs (disch := (first | omega | (simp -implicitDefEqProofs only [szs, ne_eq] <;> omega) | fail)) only [go_sem, Nat.reduceAdd, Nat.reduceSub, Nat.reduceMul, Nat.reduceLT, Nat.reduceMod, Nat.reduceDiv, Nat.reduceEqDiff, Nat.reduceBEq, Nat.reduceLeDiff, ↓reduceIte, reduceCtorEq, Int.reduceAdd, Int.reduceSub, Int.reduceLT, Int.reduceLE, Int.reduceBEq, Int.reduceEq, Int.reduceToNat]
end Go.Proofs.Ytfgdpgagcnelpaa
