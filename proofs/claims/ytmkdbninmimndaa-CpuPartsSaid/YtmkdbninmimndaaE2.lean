/- The table of the ops of two registers (printed by genE2.py). -/
import Derived.Test.YtmkdbninmimndaaE1
import Derived.Test.YtmkdbninmimndaaV4
set_option linter.unusedVariables false
set_option maxRecDepth 100000
namespace Go.Proofs.Ytmkdbninmimndaa
open Go Go.Vm
def plainOp (op : Nat) : Prop := op = 8 ∨ op = 9 ∨ op = 10 ∨ op = 13 ∨ op = 14 ∨ op = 15 ∨ op = 16 ∨ op = 17
def Fun (h : Heap) (n0 op : Nat) (v : V) : Prop := (op = 11 ∧ v = .func 43 [] []) ∨ (op = 12 ∧ v = .func 44 [] []) ∨ (plainOp op ∧ ∃ bx c, v = .func 34 [] [.ptr (some (bx, 0))] ∧ n0 ≤ bx ∧ h.get bx = some (.cells c 86) ∧ c.size = 1 ∧ c.get 0 = .func (fnOf op) [] [])
theorem Fun.keep {h h' : Heap} {n0 op : Nat} {v : V} (hf : Fun h n0 op v) (hk : ∀ b c, n0 ≤ b → h.get b = some (.cells c 86) → h'.get b = some (.cells c 86)) : Fun h' n0 op v := by
  rcases hf with e | e | ⟨e, bx, c, e1, e2, e3, e4, e5⟩
  · exact .inl e
  · exact .inr (.inl e)
  · exact .inr (.inr ⟨e, bx, c, e1, e2, hk bx c e2 e3, e4, e5⟩)
def FunsAt (h : Heap) (n0 : Nat) (es : Ents) (done : List Nat) : Prop := ∀ o ∈ done, ∃ f, getI es (o : Int) = some f ∧ Fun h n0 o f
theorem ops_step {g g' : Heap} {n0 m op : Nat} {es : Ents} {ck : Nat} {done : List Nat} {f : V} (hm' : g.get m = some (.map es ck)) (hI : IMap es ck) (H : FunsAt g n0 es done) (vf : VF g g' (fun _ => False)) (hf : Fun g' n0 op f) : ∃ es' ck', updV Try.prog 73 g' (.map (some m)) (.int .i64 (op : Int)) f = some (g'.set m (.map es' ck'), [m]) ∧ (g'.set m (.map es' ck')).get m = some (.map es' ck') ∧ IMap es' ck' ∧ FunsAt (g'.set m (.map es' ck')) n0 es' (op :: done) := by
  have hml := Heap.lt_of_get hm'
  have hm2 := (vf.get m hml (by simp)).trans hm'
  obtain ⟨es', ck', hu, hI', hg, _⟩ := upd_int Try.underlying73 Try.underlying48 hm2 hI (op : Int) f
  have hml2 := Heap.lt_of_get hm2
  have hs : ∀ b c, g'.get b = some (.cells c 86) → (g'.set m (.map es' ck')).get b = some (.cells c 86) := fun b c hb => by
    have : b ≠ m := fun e => by rw [e, hm2] at hb; cases hb
    rw [w_set_ne hml2 this]; exact hb
  refine ⟨es', ck', hu, w_set_eq hml2 rfl _, hI', fun o ho => ?_⟩
  rw [hg]
  by_cases e : o = op
  · subst e
    rw [if_pos rfl]
    exact ⟨f, rfl, hf.keep fun b c _ hb => hs b c hb⟩
  · rw [if_neg (by omega)]
    rcases List.mem_cons.1 ho with e' | ho
    · exact absurd e' e
    · obtain ⟨f', h1, h2⟩ := H o ho
      exact ⟨f', h1, h2.keep fun b c _ hb => hs b c ((vf.get b (Heap.lt_of_get hb) (by simp)).trans hb)⟩
def OpsAt (h : Heap) (n0 : Nat) (v : V) : Prop := ∃ m es ck, v = .map (some m) ∧ n0 ≤ m ∧ h.get m = some (.map es ck) ∧ IMap es ck ∧ FunsAt h n0 es [12, 11, 17, 16, 15, 14, 13, 10, 9, 8]
theorem OpsAt.keep {h h' : Heap} {n0 : Nat} {v : V} (ho : OpsAt h n0 v) (hk : ∀ b, n0 ≤ b → b < h.n → (∀ c, h.get b = some (.cells c 72) → False) → h'.get b = h.get b) : OpsAt h' n0 v := by
  obtain ⟨m, es, ck, e1, e2, e3, e4, e5⟩ := ho
  refine ⟨m, es, ck, e1, e2, (hk m e2 (Heap.lt_of_get e3) fun c hc => by rw [e3] at hc; cases hc).trans e3, e4, fun o ho => ?_⟩
  obtain ⟨f, h1, h2⟩ := e5 o ho
  exact ⟨f, h1, h2.keep fun b c hb hg => (hk b hb (Heap.lt_of_get hg) fun c' hc => by rw [hg] at hc; simp at hc).trans hg⟩
theorem zv_86 : zeroV Try.prog 86 = some .nilFunc := by kernel_rfl
theorem OpsAt.look {h : Heap} {n0 op : Nat} {v : V} (ho : OpsAt h n0 v) (hop : 8 ≤ op ∧ op ≤ 17) : ∃ f m, lookV Try.prog 73 h v (.int .i64 (op : Int)) false = some (f, [m]) ∧ m < h.n ∧ Fun h n0 op f := by
  obtain ⟨m, es, ck, rfl, e2, e3, e4, e5⟩ := ho
  obtain ⟨f, h1, h2⟩ := e5 op (by simp only [List.mem_cons, List.not_mem_nil, or_false]; omega)
  refine ⟨f, m, ?_, Heap.lt_of_get e3, h2⟩
  rw [look_int Try.underlying73 Try.underlying48 zv_86 e3 e4 (op : Int), h1]
  rfl
set_option maxHeartbeats 40000000 in
theorem math_ok (h : Heap) : SF (Try.prog : MP) 26 [] h (fun _ => False) (fun _ => False) fun v h' => OpsAt h' h.n v := by
  refine SF.go hm Try.func26 ir26_eq ?_
  simp -implicitDefEqProofs (disch := (first | omega | fail)) only [go_sem, seval, ↓reduceIte, reduceCtorEq, ir26]
  have hm0 : (h.push (.map [] 0)).get h.n = some (.map [] 0) := w_push_eq rfl _
  have hI0 := IMap.nil
  have H0 : FunsAt (h.push (.map [] 0)) h.n [] [] := by intro o ho; cases ho
  have hn0 : h.n ≤ (h.push (.map [] 0)).n := by simp
  have hl0 : h.n < (h.push (.map [] 0)).n := by simp
  generalize h.push (.map [] 0) = g0 at *
  refine GCall.of (((f33_ok (h := g0) 35).kept).foot (fun _ h => h.elim) (fun _ h => h.elim)) ?_
  rintro r k1 ⟨⟨rfl, e1, e2⟩, vf⟩
  obtain ⟨es, ck, hu, hm1, hI1, H1⟩ := ops_step hm0 hI0 H0 vf (op := 8) (.inr (.inr ⟨by unfold plainOp; omega, g0.n, _, rfl, by omega, e2, rfl, rfl⟩))
  replace hu : updV Try.prog 73 k1 (.map (some h.n)) (.int .i64 8) (.func 34 [] [.ptr (some (g0.n, 0))]) = some (k1.set h.n (.map es ck), [h.n]) := hu
  have hn1 : h.n ≤ (k1.set h.n (.map es ck)).n := by simp only [Heap.n_set]; omega
  have hl1 : h.n < (k1.set h.n (.map es ck)).n := by simp only [Heap.n_set]; omega
  simp -implicitDefEqProofs (disch := (first | omega | fail)) only [go_sem, seval, ↓reduceIte, reduceCtorEq, undefV, ↓hu]
  clear hm0 hI0 H0 hn0 hl0 vf e1 e2 hu
  generalize k1.set h.n (.map es ck) = g1 at *
  refine GCall.of (((f33_ok (h := g1) 36).kept).foot (fun _ h => h.elim) (fun _ h => h.elim)) ?_
  rintro r k2 ⟨⟨rfl, e1, e2⟩, vf⟩
  obtain ⟨es, ck, hu, hm2, hI2, H2⟩ := ops_step hm1 hI1 H1 vf (op := 9) (.inr (.inr ⟨by unfold plainOp; omega, g1.n, _, rfl, by omega, e2, rfl, rfl⟩))
  replace hu : updV Try.prog 73 k2 (.map (some h.n)) (.int .i64 9) (.func 34 [] [.ptr (some (g1.n, 0))]) = some (k2.set h.n (.map es ck), [h.n]) := hu
  have hn2 : h.n ≤ (k2.set h.n (.map es ck)).n := by simp only [Heap.n_set]; omega
  have hl2 : h.n < (k2.set h.n (.map es ck)).n := by simp only [Heap.n_set]; omega
  simp -implicitDefEqProofs (disch := (first | omega | fail)) only [go_sem, seval, ↓reduceIte, reduceCtorEq, undefV, ↓hu]
  clear hm1 hI1 H1 hn1 hl1 vf e1 e2 hu
  generalize k2.set h.n (.map es ck) = g2 at *
  refine GCall.of (((f33_ok (h := g2) 37).kept).foot (fun _ h => h.elim) (fun _ h => h.elim)) ?_
  rintro r k3 ⟨⟨rfl, e1, e2⟩, vf⟩
  obtain ⟨es, ck, hu, hm3, hI3, H3⟩ := ops_step hm2 hI2 H2 vf (op := 10) (.inr (.inr ⟨by unfold plainOp; omega, g2.n, _, rfl, by omega, e2, rfl, rfl⟩))
  replace hu : updV Try.prog 73 k3 (.map (some h.n)) (.int .i64 10) (.func 34 [] [.ptr (some (g2.n, 0))]) = some (k3.set h.n (.map es ck), [h.n]) := hu
  have hn3 : h.n ≤ (k3.set h.n (.map es ck)).n := by simp only [Heap.n_set]; omega
  have hl3 : h.n < (k3.set h.n (.map es ck)).n := by simp only [Heap.n_set]; omega
  simp -implicitDefEqProofs (disch := (first | omega | fail)) only [go_sem, seval, ↓reduceIte, reduceCtorEq, undefV, ↓hu]
  clear hm2 hI2 H2 hn2 hl2 vf e1 e2 hu
  generalize k3.set h.n (.map es ck) = g3 at *
  refine GCall.of (((f33_ok (h := g3) 38).kept).foot (fun _ h => h.elim) (fun _ h => h.elim)) ?_
  rintro r k4 ⟨⟨rfl, e1, e2⟩, vf⟩
  obtain ⟨es, ck, hu, hm4, hI4, H4⟩ := ops_step hm3 hI3 H3 vf (op := 13) (.inr (.inr ⟨by unfold plainOp; omega, g3.n, _, rfl, by omega, e2, rfl, rfl⟩))
  replace hu : updV Try.prog 73 k4 (.map (some h.n)) (.int .i64 13) (.func 34 [] [.ptr (some (g3.n, 0))]) = some (k4.set h.n (.map es ck), [h.n]) := hu
  have hn4 : h.n ≤ (k4.set h.n (.map es ck)).n := by simp only [Heap.n_set]; omega
  have hl4 : h.n < (k4.set h.n (.map es ck)).n := by simp only [Heap.n_set]; omega
  simp -implicitDefEqProofs (disch := (first | omega | fail)) only [go_sem, seval, ↓reduceIte, reduceCtorEq, undefV, ↓hu]
  clear hm3 hI3 H3 hn3 hl3 vf e1 e2 hu
  generalize k4.set h.n (.map es ck) = g4 at *
  refine GCall.of (((f33_ok (h := g4) 39).kept).foot (fun _ h => h.elim) (fun _ h => h.elim)) ?_
  rintro r k5 ⟨⟨rfl, e1, e2⟩, vf⟩
  obtain ⟨es, ck, hu, hm5, hI5, H5⟩ := ops_step hm4 hI4 H4 vf (op := 14) (.inr (.inr ⟨by unfold plainOp; omega, g4.n, _, rfl, by omega, e2, rfl, rfl⟩))
  replace hu : updV Try.prog 73 k5 (.map (some h.n)) (.int .i64 14) (.func 34 [] [.ptr (some (g4.n, 0))]) = some (k5.set h.n (.map es ck), [h.n]) := hu
  have hn5 : h.n ≤ (k5.set h.n (.map es ck)).n := by simp only [Heap.n_set]; omega
  have hl5 : h.n < (k5.set h.n (.map es ck)).n := by simp only [Heap.n_set]; omega
  simp -implicitDefEqProofs (disch := (first | omega | fail)) only [go_sem, seval, ↓reduceIte, reduceCtorEq, undefV, ↓hu]
  clear hm4 hI4 H4 hn4 hl4 vf e1 e2 hu
  generalize k5.set h.n (.map es ck) = g5 at *
  refine GCall.of (((f33_ok (h := g5) 40).kept).foot (fun _ h => h.elim) (fun _ h => h.elim)) ?_
  rintro r k6 ⟨⟨rfl, e1, e2⟩, vf⟩
  obtain ⟨es, ck, hu, hm6, hI6, H6⟩ := ops_step hm5 hI5 H5 vf (op := 15) (.inr (.inr ⟨by unfold plainOp; omega, g5.n, _, rfl, by omega, e2, rfl, rfl⟩))
  replace hu : updV Try.prog 73 k6 (.map (some h.n)) (.int .i64 15) (.func 34 [] [.ptr (some (g5.n, 0))]) = some (k6.set h.n (.map es ck), [h.n]) := hu
  have hn6 : h.n ≤ (k6.set h.n (.map es ck)).n := by simp only [Heap.n_set]; omega
  have hl6 : h.n < (k6.set h.n (.map es ck)).n := by simp only [Heap.n_set]; omega
  simp -implicitDefEqProofs (disch := (first | omega | fail)) only [go_sem, seval, ↓reduceIte, reduceCtorEq, undefV, ↓hu]
  clear hm5 hI5 H5 hn5 hl5 vf e1 e2 hu
  generalize k6.set h.n (.map es ck) = g6 at *
  refine GCall.of (((f33_ok (h := g6) 41).kept).foot (fun _ h => h.elim) (fun _ h => h.elim)) ?_
  rintro r k7 ⟨⟨rfl, e1, e2⟩, vf⟩
  obtain ⟨es, ck, hu, hm7, hI7, H7⟩ := ops_step hm6 hI6 H6 vf (op := 16) (.inr (.inr ⟨by unfold plainOp; omega, g6.n, _, rfl, by omega, e2, rfl, rfl⟩))
  replace hu : updV Try.prog 73 k7 (.map (some h.n)) (.int .i64 16) (.func 34 [] [.ptr (some (g6.n, 0))]) = some (k7.set h.n (.map es ck), [h.n]) := hu
  have hn7 : h.n ≤ (k7.set h.n (.map es ck)).n := by simp only [Heap.n_set]; omega
  have hl7 : h.n < (k7.set h.n (.map es ck)).n := by simp only [Heap.n_set]; omega
  simp -implicitDefEqProofs (disch := (first | omega | fail)) only [go_sem, seval, ↓reduceIte, reduceCtorEq, undefV, ↓hu]
  clear hm6 hI6 H6 hn6 hl6 vf e1 e2 hu
  generalize k7.set h.n (.map es ck) = g7 at *
  refine GCall.of (((f33_ok (h := g7) 42).kept).foot (fun _ h => h.elim) (fun _ h => h.elim)) ?_
  rintro r k8 ⟨⟨rfl, e1, e2⟩, vf⟩
  obtain ⟨es, ck, hu, hm8, hI8, H8⟩ := ops_step hm7 hI7 H7 vf (op := 17) (.inr (.inr ⟨by unfold plainOp; omega, g7.n, _, rfl, by omega, e2, rfl, rfl⟩))
  replace hu : updV Try.prog 73 k8 (.map (some h.n)) (.int .i64 17) (.func 34 [] [.ptr (some (g7.n, 0))]) = some (k8.set h.n (.map es ck), [h.n]) := hu
  have hn8 : h.n ≤ (k8.set h.n (.map es ck)).n := by simp only [Heap.n_set]; omega
  have hl8 : h.n < (k8.set h.n (.map es ck)).n := by simp only [Heap.n_set]; omega
  simp -implicitDefEqProofs (disch := (first | omega | fail)) only [go_sem, seval, ↓reduceIte, reduceCtorEq, undefV, ↓hu]
  clear hm7 hI7 H7 hn7 hl7 vf e1 e2 hu
  generalize k8.set h.n (.map es ck) = g8 at *
  obtain ⟨es, ck, hu, hm9, hI9, H9⟩ := ops_step hm8 hI8 H8 (VF.refl g8 _) (op := 11) (f := .func 43 [] []) (.inl ⟨rfl, rfl⟩)
  obtain ⟨es', ck', hu', hm10, hI10, H10⟩ := ops_step hm9 hI9 H9 (VF.refl _ _) (op := 12) (f := .func 44 [] []) (.inr (.inl ⟨rfl, rfl⟩))
  replace hu : updV Try.prog 73 g8 (.map (some h.n)) (.int .i64 11) (.func 43 [] []) = some (g8.set h.n (.map es ck), [h.n]) := hu
  replace hu' : updV Try.prog 73 (g8.set h.n (.map es ck)) (.map (some h.n)) (.int .i64 12) (.func 44 [] []) = some ((g8.set h.n (.map es ck)).set h.n (.map es' ck'), [h.n]) := hu'
  simp -implicitDefEqProofs (disch := (first | omega | fail)) only [go_sem, seval, ↓hu, ↓hu']
  exact ⟨h.n, es', ck', rfl, by omega, hm10, hI10, H10⟩
end Go.Proofs.Ytmkdbninmimndaa
