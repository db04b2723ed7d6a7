/- PortsApart: the law; views of steps. -/
import Derived.Test.YtmimialblhlklaaH5
import Derived.Test.YtmimialblhlklaaVA
set_option linter.unusedVariables false
set_option linter.unusedSimpArgs false
set_option linter.unusedSimpArgs false
set_option maxRecDepth 100000
set_option linter.unusedVariables false
set_option linter.unusedSimpArgs false
namespace Go.Proofs.Ytmimialblhlklaa
open Go Go.Vm
variable {R W : Set'}
set_option maxHeartbeats 8000000 in
theorem apart_law {h : Heap} {v0 v1 : V} {m0 m1 : Nat} (hv0 : StepsV h v0 m0) (hv1 : StepsV h v1 m1) (hR : ∀ b, R b) : SF ⟨Try.prog, true⟩ 4 [v0, v1] h R W fun r g => r = .bool true := by
  have hRR : ∀ b, h.n ≤ b ∨ R b := fun b => .inr (hR b)
  refine SF.go hm Try.func4 ir4_eq ?_
  simp -implicitDefEqProofs (disch := (first | omega | (simp -implicitDefEqProofs only [szs, ne_eq] <;> omega) | fail)) only [go_sem, Nat.reduceAdd, Nat.reduceSub, Nat.reduceMul, Nat.reduceLT, Nat.reduceMod, Nat.reduceDiv, Nat.reduceEqDiff, Nat.reduceBEq, Nat.reduceLeDiff, ↓reduceIte, reduceCtorEq, Int.reduceAdd, Int.reduceSub, Int.reduceLT, Int.reduceLE, Int.reduceBEq, Int.reduceEq, Int.reduceToNat, ir4, undefV]
  refine GCall.of (known_dem hRR) ?_
  rintro r g ⟨rfl, hn, hk⟩
  have hv0g := hv0.old hn hk
  have hv1g := hv1.old hn hk
  simp -implicitDefEqProofs (disch := (first | omega | (simp -implicitDefEqProofs only [szs, ne_eq] <;> omega) | fail)) only [go_sem, Nat.reduceAdd, Nat.reduceSub, Nat.reduceMul, Nat.reduceLT, Nat.reduceMod, Nat.reduceDiv, Nat.reduceEqDiff, Nat.reduceBEq, Nat.reduceLeDiff, ↓reduceIte, reduceCtorEq, Int.reduceAdd, Int.reduceSub, Int.reduceLT, Int.reduceLE, Int.reduceBEq, Int.reduceEq, Int.reduceToNat, undefV]
  refine GCall.of (much_ok hv0g hRR).any ?_
  rintro r g ⟨⟨b, rfl⟩, rfl⟩
  cases b
  rotate_left
  · simp -implicitDefEqProofs (disch := (first | omega | (simp -implicitDefEqProofs only [szs, ne_eq] <;> omega) | fail)) only [go_sem, Nat.reduceAdd, Nat.reduceSub, Nat.reduceMul, Nat.reduceLT, Nat.reduceMod, Nat.reduceDiv, Nat.reduceEqDiff, Nat.reduceBEq, Nat.reduceLeDiff, ↓reduceIte, reduceCtorEq, Int.reduceAdd, Int.reduceSub, Int.reduceLT, Int.reduceLE, Int.reduceBEq, Int.reduceEq, Int.reduceToNat, undefV]
  simp -implicitDefEqProofs (disch := (first | omega | (simp -implicitDefEqProofs only [szs, ne_eq] <;> omega) | fail)) only [go_sem, Nat.reduceAdd, Nat.reduceSub, Nat.reduceMul, Nat.reduceLT, Nat.reduceMod, Nat.reduceDiv, Nat.reduceEqDiff, Nat.reduceBEq, Nat.reduceLeDiff, ↓reduceIte, reduceCtorEq, Int.reduceAdd, Int.reduceSub, Int.reduceLT, Int.reduceLE, Int.reduceBEq, Int.reduceEq, Int.reduceToNat, undefV]
  refine GCall.of (much_ok hv1g hRR).any ?_
  rintro r g ⟨⟨b, rfl⟩, rfl⟩
  cases b
  rotate_left
  · simp -implicitDefEqProofs (disch := (first | omega | (simp -implicitDefEqProofs only [szs, ne_eq] <;> omega) | fail)) only [go_sem, Nat.reduceAdd, Nat.reduceSub, Nat.reduceMul, Nat.reduceLT, Nat.reduceMod, Nat.reduceDiv, Nat.reduceEqDiff, Nat.reduceBEq, Nat.reduceLeDiff, ↓reduceIte, reduceCtorEq, Int.reduceAdd, Int.reduceSub, Int.reduceLT, Int.reduceLE, Int.reduceBEq, Int.reduceEq, Int.reduceToNat, undefV]
  simp -implicitDefEqProofs (disch := (first | omega | (simp -implicitDefEqProofs only [szs, ne_eq] <;> omega) | fail)) only [go_sem, Nat.reduceAdd, Nat.reduceSub, Nat.reduceMul, Nat.reduceLT, Nat.reduceMod, Nat.reduceDiv, Nat.reduceEqDiff, Nat.reduceBEq, Nat.reduceLeDiff, ↓reduceIte, reduceCtorEq, Int.reduceAdd, Int.reduceSub, Int.reduceLT, Int.reduceLE, Int.reduceBEq, Int.reduceEq, Int.reduceToNat, undefV]
  have e444 : ([V.int .i64 4, .int .i64 4, .int .i64 4] : List V) = ([4, 4, 4] : List Int).map (.int .i64) := rfl
  refine GCall.of (begin_px (zs := [4, 4, 4]) (LR.push g _ 3) (by decide) hRR) ?_
  rintro r g1 ⟨hn1, hk1, ⟨hno, _⟩ | ⟨_, p, Mp, rd, bl, I, rfl, hx, hM, _⟩⟩
  · exact absurd hno (by decide)
  simp only [Heap.n_push] at hn1 hM
  simp -implicitDefEqProofs (disch := (first | omega | (simp -implicitDefEqProofs only [szs, ne_eq] <;> omega) | fail)) only [go_sem, Nat.reduceAdd, Nat.reduceSub, Nat.reduceMul, Nat.reduceLT, Nat.reduceMod, Nat.reduceDiv, Nat.reduceEqDiff, Nat.reduceBEq, Nat.reduceLeDiff, ↓reduceIte, reduceCtorEq, Int.reduceAdd, Int.reduceSub, Int.reduceLT, Int.reduceLE, Int.reduceBEq, Int.reduceEq, Int.reduceToNat, undefV]
  refine GCall.of (begin_px (zs := [4, 4, 4]) (LR.push g1 _ 3) (by decide) hRR) ?_
  rintro r g2 ⟨hn2, hk2, ⟨hno, _⟩ | ⟨_, q, Mq, rd2, bl2, I2, rfl, hx2, hM2, _⟩⟩
  · exact absurd hno (by decide)
  simp only [Heap.n_push] at hn2 hM2
  simp -implicitDefEqProofs (disch := (first | omega | (simp -implicitDefEqProofs only [szs, ne_eq] <;> omega) | fail)) only [go_sem, Nat.reduceAdd, Nat.reduceSub, Nat.reduceMul, Nat.reduceLT, Nat.reduceMod, Nat.reduceDiv, Nat.reduceEqDiff, Nat.reduceBEq, Nat.reduceLeDiff, ↓reduceIte, reduceCtorEq, Int.reduceAdd, Int.reduceSub, Int.reduceLT, Int.reduceLE, Int.reduceBEq, Int.reduceEq, Int.reduceToNat, undefV]
  have kg1 : ∀ k, k < g.n → g1.get k = g.get k := fun k hk => by rw [hk1 k (by simp; omega), w_push_ne (by omega)]
  have kg2 : ∀ k, k < g1.n → g2.get k = g1.get k := fun k hk => by rw [hk2 k (by simp; omega), w_push_ne (by omega)]
  have hs : Same1 g g2 p q := ⟨Mp, Mq, _, _, ⟨hx.old (by omega) kg2, hx2, fun k hk => by have := hM k hk; omega, fun k hk => by have := hM2 k hk; omega, fun k h1 h2 => by have := hx.lt k h1; have := hM2 k h2; omega, by omega, fun k hk => by rw [kg2 k (by omega), kg1 k hk]⟩, rfl⟩
  refine apart_l0 hRR (fun b hb => .inl (by omega)) hv0g hv1g (by simp -implicitDefEqProofs (disch := (first | omega | (simp -implicitDefEqProofs only [szs, ne_eq] <;> omega) | fail)) only [go_sem, Nat.reduceAdd, Nat.reduceSub, Nat.reduceMul, Nat.reduceLT, Nat.reduceMod, Nat.reduceDiv, Nat.reduceEqDiff, Nat.reduceBEq, Nat.reduceLeDiff, ↓reduceIte, reduceCtorEq, Int.reduceAdd, Int.reduceSub, Int.reduceLT, Int.reduceLE, Int.reduceBEq, Int.reduceEq, Int.reduceToNat]) (by simp -implicitDefEqProofs (disch := (first | omega | (simp -implicitDefEqProofs only [szs, ne_eq] <;> omega) | fail)) only [go_sem, Nat.reduceAdd, Nat.reduceSub, Nat.reduceMul, Nat.reduceLT, Nat.reduceMod, Nat.reduceDiv, Nat.reduceEqDiff, Nat.reduceBEq, Nat.reduceLeDiff, ↓reduceIte, reduceCtorEq, Int.reduceAdd, Int.reduceSub, Int.reduceLT, Int.reduceLE, Int.reduceBEq, Int.reduceEq, Int.reduceToNat]) (by simp -implicitDefEqProofs (disch := (first | omega | (simp -implicitDefEqProofs only [szs, ne_eq] <;> omega) | fail)) only [go_sem, Nat.reduceAdd, Nat.reduceSub, Nat.reduceMul, Nat.reduceLT, Nat.reduceMod, Nat.reduceDiv, Nat.reduceEqDiff, Nat.reduceBEq, Nat.reduceLeDiff, ↓reduceIte, reduceCtorEq, Int.reduceAdd, Int.reduceSub, Int.reduceLT, Int.reduceLE, Int.reduceBEq, Int.reduceEq, Int.reduceToNat]) (by simp -implicitDefEqProofs (disch := (first | omega | (simp -implicitDefEqProofs only [szs, ne_eq] <;> omega) | fail)) only [go_sem, Nat.reduceAdd, Nat.reduceSub, Nat.reduceMul, Nat.reduceLT, Nat.reduceMod, Nat.reduceDiv, Nat.reduceEqDiff, Nat.reduceBEq, Nat.reduceLeDiff, ↓reduceIte, reduceCtorEq, Int.reduceAdd, Int.reduceSub, Int.reduceLT, Int.reduceLE, Int.reduceBEq, Int.reduceEq, Int.reduceToNat]) (by simp -implicitDefEqProofs (disch := (first | omega | (simp -implicitDefEqProofs only [szs, ne_eq] <;> omega) | fail)) only [go_sem, Nat.reduceAdd, Nat.reduceSub, Nat.reduceMul, Nat.reduceLT, Nat.reduceMod, Nat.reduceDiv, Nat.reduceEqDiff, Nat.reduceBEq, Nat.reduceLeDiff, ↓reduceIte, reduceCtorEq, Int.reduceAdd, Int.reduceSub, Int.reduceLT, Int.reduceLE, Int.reduceBEq, Int.reduceEq, Int.reduceToNat]) hs ?_
  intro tr g3
  simp -implicitDefEqProofs (disch := (first | omega | (simp -implicitDefEqProofs only [szs, ne_eq] <;> omega) | fail)) only [go_sem, Nat.reduceAdd, Nat.reduceSub, Nat.reduceMul, Nat.reduceLT, Nat.reduceMod, Nat.reduceDiv, Nat.reduceEqDiff, Nat.reduceBEq, Nat.reduceLeDiff, ↓reduceIte, reduceCtorEq, Int.reduceAdd, Int.reduceSub, Int.reduceLT, Int.reduceLE, Int.reduceBEq, Int.reduceEq, Int.reduceToNat, undefV]
abbrev vtStep : VT := .struct [.int .i64, .int .i64, .int .i64, .slice vtTe, .slice (.int .u8)]
theorem steps_of {h : Heap} {v : V} (hv : VSl h 5 (VIs h vtStep) v) : ∃ m, StepsV h v m := by
  rcases hv with rfl | ⟨a, rfl⟩ | ⟨b, o, len, cap, c, ce, rfl, hlc, h0, hcm, hb, hsz, hc⟩
  · exact ⟨0, by omega, .inl ⟨rfl, .inl rfl⟩⟩
  · exact ⟨0, by omega, .inl ⟨rfl, .inr ⟨a, rfl⟩⟩⟩
  · refine ⟨len, by omega, .inr ⟨b, o, cap, c, ce, rfl, hb, by omega, fun i hi => ?_⟩⟩
    obtain ⟨_, _, e0, ⟨n0, rfl, _⟩, hb1⟩ := viss_cons (hc i (by omega))
    obtain ⟨_, _, rfl, ⟨n1, rfl, _⟩, hb2⟩ := viss_cons hb1
    obtain ⟨_, _, rfl, ⟨n2, rfl, _⟩, hb3⟩ := viss_cons hb2
    obtain ⟨_, _, rfl, ⟨vf, rfl, hf⟩, hb4⟩ := viss_cons hb3
    obtain ⟨_, b5, rfl, ⟨vp, rfl, hp⟩, hb5⟩ := viss_cons hb4
    have hb' : b5 = [] := hb5
    subst hb'
    obtain ⟨L, hL⟩ := tests_of hf
    obtain ⟨l, hl, hby⟩ := byt_of hp
    simp only [Blk.gets, List.cons_append, List.nil_append, List.cons.injEq, and_true] at e0
    obtain ⟨a0, a1, a2, a3, a4⟩ := e0
    exact ⟨n0, n1, n2, vf, vp, L, l, a0, a1, a2, a3, a4, LRs.mono hL fun b hb _ => hb, hl.mono fun b hb _ => hb, hby⟩
end Go.Proofs.Ytmimialblhlklaa
