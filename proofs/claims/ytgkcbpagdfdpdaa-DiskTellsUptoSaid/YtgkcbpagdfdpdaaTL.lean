/- DiskTells: two disks, side by side with the document's. -/
import Derived.Test.YtgkcbpagdfdpdaaLS
import Derived.Test.YtgkcbpagdfdpdaaR8
set_option linter.unusedVariables false
set_option linter.unusedSimpArgs false
set_option linter.unusedSimpArgs false
set_option maxRecDepth 100000
set_option linter.unusedVariables false
set_option linter.unusedSimpArgs false
namespace Go.Proofs.Ytgkcbpagdfdpdaa
open Go Go.Vm
attribute [-go_sem] sz_67
theorem there_nil {h : Heap} {R W : Set'} : SF Try.prog 29 [.ptr none] h R W fun v h' => v = .bool false ∧ h' = h := by
  refine SF.go hm Try.func29 ir29_eq ?_
  simp -implicitDefEqProofs (disch := (first | omega | (simp -implicitDefEqProofs only [szs, ne_eq] <;> omega) | fail)) only [go_sem, Nat.reduceAdd, Nat.reduceSub, Nat.reduceMul, Nat.reduceLT, Nat.reduceMod, Nat.reduceDiv, Nat.reduceEqDiff, Nat.reduceBEq, Nat.reduceLeDiff, ↓reduceIte, reduceCtorEq, Int.reduceAdd, Int.reduceSub, Int.reduceLT, Int.reduceLE, Int.reduceBEq, Int.reduceEq, Int.reduceToNat, ir29, Option.isNone_none, undefV]
theorem same_nn {h : Heap} {R W : Set'} : SF Try.prog 16 [.ptr none, .ptr none] h R W fun v h' => v = .bool true ∧ h' = h := by
  refine SF.go hm Try.func16 ir16_eq ?_
  simp -implicitDefEqProofs (disch := (first | omega | (simp -implicitDefEqProofs only [szs, ne_eq] <;> omega) | fail)) only [go_sem, Nat.reduceAdd, Nat.reduceSub, Nat.reduceMul, Nat.reduceLT, Nat.reduceMod, Nat.reduceDiv, Nat.reduceEqDiff, Nat.reduceBEq, Nat.reduceLeDiff, ↓reduceIte, reduceCtorEq, Int.reduceAdd, Int.reduceSub, Int.reduceLT, Int.reduceLE, Int.reduceBEq, Int.reduceEq, Int.reduceToNat, ir16]
  refine GCall.of there_nil ?_
  rintro v h ⟨rfl, rfl⟩
  simp -implicitDefEqProofs (disch := (first | omega | (simp -implicitDefEqProofs only [szs, ne_eq] <;> omega) | fail)) only [go_sem, Nat.reduceAdd, Nat.reduceSub, Nat.reduceMul, Nat.reduceLT, Nat.reduceMod, Nat.reduceDiv, Nat.reduceEqDiff, Nat.reduceBEq, Nat.reduceLeDiff, ↓reduceIte, reduceCtorEq, Int.reduceAdd, Int.reduceSub, Int.reduceLT, Int.reduceLE, Int.reduceBEq, Int.reduceEq, Int.reduceToNat, undefV]
  refine GCall.of there_nil ?_
  rintro v h ⟨rfl, rfl⟩
  simp -implicitDefEqProofs (disch := (first | omega | (simp -implicitDefEqProofs only [szs, ne_eq] <;> omega) | fail)) only [go_sem, Nat.reduceAdd, Nat.reduceSub, Nat.reduceMul, Nat.reduceLT, Nat.reduceMod, Nat.reduceDiv, Nat.reduceEqDiff, Nat.reduceBEq, Nat.reduceLeDiff, ↓reduceIte, reduceCtorEq, Int.reduceAdd, Int.reduceSub, Int.reduceLT, Int.reduceLE, Int.reduceBEq, Int.reduceEq, Int.reduceToNat, undefV]
  refine GCall.of there_nil ?_
  rintro v h ⟨rfl, rfl⟩
  simp -implicitDefEqProofs (disch := (first | omega | (simp -implicitDefEqProofs only [szs, ne_eq] <;> omega) | fail)) only [go_sem, Nat.reduceAdd, Nat.reduceSub, Nat.reduceMul, Nat.reduceLT, Nat.reduceMod, Nat.reduceDiv, Nat.reduceEqDiff, Nat.reduceBEq, Nat.reduceLeDiff, ↓reduceIte, reduceCtorEq, Int.reduceAdd, Int.reduceSub, Int.reduceLT, Int.reduceLE, Int.reduceBEq, Int.reduceEq, Int.reduceToNat, undefV]
theorem same_ns {h : Heap} {R W : Set'} {bd : Nat} {L : DL} {D : DS} (hd : DiskAt h bd L D) (hR : R bd) : SF Try.prog 16 [.ptr none, .ptr (some (bd, 0))] h R W fun v h' => v = .bool false ∧ h' = h := by
  refine SF.go hm Try.func16 ir16_eq ?_
  simp -implicitDefEqProofs (disch := (first | omega | (simp -implicitDefEqProofs only [szs, ne_eq] <;> omega) | fail)) only [go_sem, Nat.reduceAdd, Nat.reduceSub, Nat.reduceMul, Nat.reduceLT, Nat.reduceMod, Nat.reduceDiv, Nat.reduceEqDiff, Nat.reduceBEq, Nat.reduceLeDiff, ↓reduceIte, reduceCtorEq, Int.reduceAdd, Int.reduceSub, Int.reduceLT, Int.reduceLE, Int.reduceBEq, Int.reduceEq, Int.reduceToNat, ir16]
  refine GCall.of there_nil ?_
  rintro v h ⟨rfl, rfl⟩
  simp -implicitDefEqProofs (disch := (first | omega | (simp -implicitDefEqProofs only [szs, ne_eq] <;> omega) | fail)) only [go_sem, Nat.reduceAdd, Nat.reduceSub, Nat.reduceMul, Nat.reduceLT, Nat.reduceMod, Nat.reduceDiv, Nat.reduceEqDiff, Nat.reduceBEq, Nat.reduceLeDiff, ↓reduceIte, reduceCtorEq, Int.reduceAdd, Int.reduceSub, Int.reduceLT, Int.reduceLE, Int.reduceBEq, Int.reduceEq, Int.reduceToNat, undefV]
  refine GCall.of there_nil ?_
  rintro v h ⟨rfl, rfl⟩
  simp -implicitDefEqProofs (disch := (first | omega | (simp -implicitDefEqProofs only [szs, ne_eq] <;> omega) | fail)) only [go_sem, Nat.reduceAdd, Nat.reduceSub, Nat.reduceMul, Nat.reduceLT, Nat.reduceMod, Nat.reduceDiv, Nat.reduceEqDiff, Nat.reduceBEq, Nat.reduceLeDiff, ↓reduceIte, reduceCtorEq, Int.reduceAdd, Int.reduceSub, Int.reduceLT, Int.reduceLE, Int.reduceBEq, Int.reduceEq, Int.reduceToNat, undefV]
  refine GCall.of (there_ok hd (.inr hR)) ?_
  rintro v h ⟨rfl, rfl⟩
  simp -implicitDefEqProofs (disch := (first | omega | (simp -implicitDefEqProofs only [szs, ne_eq] <;> omega) | fail)) only [go_sem, Nat.reduceAdd, Nat.reduceSub, Nat.reduceMul, Nat.reduceLT, Nat.reduceMod, Nat.reduceDiv, Nat.reduceEqDiff, Nat.reduceBEq, Nat.reduceLeDiff, ↓reduceIte, reduceCtorEq, Int.reduceAdd, Int.reduceSub, Int.reduceLT, Int.reduceLE, Int.reduceBEq, Int.reduceEq, Int.reduceToNat, undefV]
theorem same_sn {h : Heap} {R W : Set'} {bd : Nat} {L : DL} {D : DS} (hd : DiskAt h bd L D) (hR : R bd) : SF Try.prog 16 [.ptr (some (bd, 0)), .ptr none] h R W fun v h' => v = .bool false ∧ h' = h := by
  refine SF.go hm Try.func16 ir16_eq ?_
  simp -implicitDefEqProofs (disch := (first | omega | (simp -implicitDefEqProofs only [szs, ne_eq] <;> omega) | fail)) only [go_sem, Nat.reduceAdd, Nat.reduceSub, Nat.reduceMul, Nat.reduceLT, Nat.reduceMod, Nat.reduceDiv, Nat.reduceEqDiff, Nat.reduceBEq, Nat.reduceLeDiff, ↓reduceIte, reduceCtorEq, Int.reduceAdd, Int.reduceSub, Int.reduceLT, Int.reduceLE, Int.reduceBEq, Int.reduceEq, Int.reduceToNat, ir16]
  refine GCall.of (there_ok hd (.inr hR)) ?_
  rintro v h ⟨rfl, rfl⟩
  simp -implicitDefEqProofs (disch := (first | omega | (simp -implicitDefEqProofs only [szs, ne_eq] <;> omega) | fail)) only [go_sem, Nat.reduceAdd, Nat.reduceSub, Nat.reduceMul, Nat.reduceLT, Nat.reduceMod, Nat.reduceDiv, Nat.reduceEqDiff, Nat.reduceBEq, Nat.reduceLeDiff, ↓reduceIte, reduceCtorEq, Int.reduceAdd, Int.reduceSub, Int.reduceLT, Int.reduceLE, Int.reduceBEq, Int.reduceEq, Int.reduceToNat, undefV]
  refine GCall.of there_nil ?_
  rintro v h ⟨rfl, rfl⟩
  simp -implicitDefEqProofs (disch := (first | omega | (simp -implicitDefEqProofs only [szs, ne_eq] <;> omega) | fail)) only [go_sem, Nat.reduceAdd, Nat.reduceSub, Nat.reduceMul, Nat.reduceLT, Nat.reduceMod, Nat.reduceDiv, Nat.reduceEqDiff, Nat.reduceBEq, Nat.reduceLeDiff, ↓reduceIte, reduceCtorEq, Int.reduceAdd, Int.reduceSub, Int.reduceLT, Int.reduceLE, Int.reduceBEq, Int.reduceEq, Int.reduceToNat, undefV]
  refine GCall.of (there_ok hd (.inr hR)) ?_
  rintro v h ⟨rfl, rfl⟩
  simp -implicitDefEqProofs (disch := (first | omega | (simp -implicitDefEqProofs only [szs, ne_eq] <;> omega) | fail)) only [go_sem, Nat.reduceAdd, Nat.reduceSub, Nat.reduceMul, Nat.reduceLT, Nat.reduceMod, Nat.reduceDiv, Nat.reduceEqDiff, Nat.reduceBEq, Nat.reduceLeDiff, ↓reduceIte, reduceCtorEq, Int.reduceAdd, Int.reduceSub, Int.reduceLT, Int.reduceLE, Int.reduceBEq, Int.reduceEq, Int.reduceToNat, undefV]
  refine GCall.of there_nil ?_
  rintro v h ⟨rfl, rfl⟩
  simp -implicitDefEqProofs (disch := (first | omega | (simp -implicitDefEqProofs only [szs, ne_eq] <;> omega) | fail)) only [go_sem, Nat.reduceAdd, Nat.reduceSub, Nat.reduceMul, Nat.reduceLT, Nat.reduceMod, Nat.reduceDiv, Nat.reduceEqDiff, Nat.reduceBEq, Nat.reduceLeDiff, ↓reduceIte, reduceCtorEq, Int.reduceAdd, Int.reduceSub, Int.reduceLT, Int.reduceLE, Int.reduceBEq, Int.reduceEq, Int.reduceToNat, undefV]
theorem rsame_nn {h : Heap} {R W : Set'} : SF Try.prog 26 [.ptr none, .ptr none] h R W fun v h' => v = .bool true ∧ h' = h := by
  refine SF.go hm Try.func26 ir26_eq ?_
  simp -implicitDefEqProofs (disch := (first | omega | (simp -implicitDefEqProofs only [szs, ne_eq] <;> omega) | fail)) only [go_sem, Nat.reduceAdd, Nat.reduceSub, Nat.reduceMul, Nat.reduceLT, Nat.reduceMod, Nat.reduceDiv, Nat.reduceEqDiff, Nat.reduceBEq, Nat.reduceLeDiff, ↓reduceIte, reduceCtorEq, Int.reduceAdd, Int.reduceSub, Int.reduceLT, Int.reduceLE, Int.reduceBEq, Int.reduceEq, Int.reduceToNat, ir26, Option.isNone_none, undefV]
theorem rsame_ns {h : Heap} {R W : Set'} {x : Nat × Nat} : SF Try.prog 26 [.ptr none, .ptr (some x)] h R W fun v h' => v = .bool false ∧ h' = h := by
  refine SF.go hm Try.func26 ir26_eq ?_
  simp -implicitDefEqProofs (disch := (first | omega | (simp -implicitDefEqProofs only [szs, ne_eq] <;> omega) | fail)) only [go_sem, Nat.reduceAdd, Nat.reduceSub, Nat.reduceMul, Nat.reduceLT, Nat.reduceMod, Nat.reduceDiv, Nat.reduceEqDiff, Nat.reduceBEq, Nat.reduceLeDiff, ↓reduceIte, reduceCtorEq, Int.reduceAdd, Int.reduceSub, Int.reduceLT, Int.reduceLE, Int.reduceBEq, Int.reduceEq, Int.reduceToNat, ir26, Option.isNone_none, Option.isNone_some, undefV]
theorem rsame_sn {h : Heap} {R W : Set'} {x : Nat × Nat} : SF Try.prog 26 [.ptr (some x), .ptr none] h R W fun v h' => v = .bool false ∧ h' = h := by
  refine SF.go hm Try.func26 ir26_eq ?_
  simp -implicitDefEqProofs (disch := (first | omega | (simp -implicitDefEqProofs only [szs, ne_eq] <;> omega) | fail)) only [go_sem, Nat.reduceAdd, Nat.reduceSub, Nat.reduceMul, Nat.reduceLT, Nat.reduceMod, Nat.reduceDiv, Nat.reduceEqDiff, Nat.reduceBEq, Nat.reduceLeDiff, ↓reduceIte, reduceCtorEq, Int.reduceAdd, Int.reduceSub, Int.reduceLT, Int.reduceLE, Int.reduceBEq, Int.reduceEq, Int.reduceToNat, ir26, Option.isNone_none, Option.isNone_some, undefV]
def okN (n : Int) : Prop := 1 ≤ n ∧ n ≤ 4096
instance (n : Int) : Decidable (okN n) := by unfold okN; infer_instance
theorem new_any {h : Heap} {R W : Set'} (n : Int) : SF Try.prog 10 [.int .i64 n] h R W fun v h' => ∃ vx e, v = .tuple [vx, .int .i64 e] ∧ (h.n ≤ h'.n ∧ ∀ b, b < h.n → h'.get b = h.get b) ∧ (okN n ∧ (∃ bd L, vx = .ptr (some (bd, 0)) ∧ DiskAt h' bd L (DS.new n.toNat) ∧ ∀ b, Foot bd L (DS.new n.toNat) b → h.n ≤ b ∧ b < h'.n) ∨ ¬ okN n ∧ vx = .ptr none) := by
  by_cases hn : okN n
  · refine SF.mono ((new_ok (R := fun _ => False) (W := fun _ => False) hn).kept.foot (fun _ h => h.elim) (fun _ h => h.elim)) fun v h' ⟨⟨L, h1, h2, h3, h4⟩, vf⟩ => ⟨_, _, h1, ⟨vf.n, fun b hb => vf.get b hb id⟩, .inl ⟨hn, _, L, rfl, h4, fun b hb => ⟨?_, h4.lt b hb⟩⟩⟩
    rcases hb with rfl | rfl | rfl | ⟨x, hx, _⟩
    · omega
    · exact h2
    · exact h3
    · exact absurd rfl hx
  · exact SF.mono (new_bad hn) fun v h' ⟨h1, h2⟩ => ⟨_, _, h1, by rw [h2]; exact ⟨Nat.le_refl _, fun _ _ => rfl⟩, .inr ⟨hn, rfl⟩⟩
theorem rnew_any {h : Heap} (n : Int) : SF Try.prog 24 [.int .i64 n] h (fun _ => True) (fun _ => False) fun v h' => (h.n ≤ h'.n ∧ ∀ b, b < h.n → h'.get b = h.get b) ∧ (okN n ∧ (∃ rd fb pb, v = .ptr (some (rd, 0)) ∧ RefX h' (fun b => h.n ≤ b ∧ b < h'.n) rd fb pb (DS.new n.toNat)) ∨ ¬ okN n ∧ v = .ptr none) := by
  by_cases hn : okN n
  · have e : n = (n.toNat : Int) := by have := hn.1; omega
    have hn' : 1 ≤ n.toNat ∧ n.toNat ≤ 4096 := by have := hn.1; have := hn.2; omega
    have key := (rnew_ok (h := h) (R := fun _ => True) (W := fun _ => False) hn' (fun _ => trivial)).kept
    rw [← e] at key
    refine SF.mono key fun v h' ⟨⟨h1, ⟨sb, h2⟩, h3⟩, vf⟩ => ⟨⟨vf.n, h3⟩, .inl ⟨hn, ?_⟩⟩
    obtain ⟨fb, pb, hr⟩ := h2.refx hn' fun s _ => ze_sec
    exact ⟨_, fb, pb, h1, hr⟩
  · exact SF.mono (rnew_bad hn) fun v h' ⟨h1, h2⟩ => ⟨by rw [h2]; exact ⟨Nat.le_refl _, fun _ _ => rfl⟩, .inr ⟨hn, h1⟩⟩
/-- One side: a disk and the document's, or none. -/
inductive Side (P : Set') (g : Heap) (K : Nat) : V → V → Option DS → Prop
  | no : Side P g K (.ptr none) (.ptr none) none
  | yes {bd : Nat} {L : DL} {D : DS} {S : Set'} {rd fb pb : Nat} : Pair P g bd L D S rd fb pb → (∀ s, (D.pe s).length ≤ K) → Side P g K (.ptr (some (bd, 0))) (.ptr (some (rd, 0))) (some D)
theorem Side.same {P : Set'} {g g' : Heap} {K : Nat} {vx vp : V} {o : Option DS} (s : Side P g K vx vp o) (hn : g.n ≤ g'.n) (hk : ∀ b, P b → b < g.n → g'.get b = g.get b) : Side P g' K vx vp o := by
  cases s with
  | no => exact .no
  | yes p few => exact .yes (p.same hn hk) few
theorem Side.exact {P : Set'} {g : Heap} {K : Nat} {vx vp : V} {o : Option DS} (s : Side P g K vx vp o) : ∃ P', (∀ b, P' b → P b ∧ b < g.n) ∧ Side P' g K vx vp o := by
  cases s with
  | no => exact ⟨fun _ => False, fun b h => h.elim, .no⟩
  | yes p few =>
    refine ⟨_, fun b hb => ⟨hb.2, ?_⟩, .yes p.exact few⟩
    rcases hb.1 with h | h
    · exact p.d.lt b h
    · exact p.sl b h
theorem Side.up {P P' : Set'} {g : Heap} {K K' : Nat} {vx vp : V} {o : Option DS} (s : Side P g K vx vp o) (hk : K ≤ K') (hp : ∀ b, P b → P' b) : Side P' g K' vx vp o := by
  cases s with
  | no => exact .no
  | yes p few => exact .yes (p.mono hp) fun s => by have := few s; omega
end Go.Proofs.Ytgkcbpagdfdpdaa
