/- Bytes of an instruction. -/
import Derived.Test.YtmkdbninmimndaaF2
set_option linter.unusedVariables false
set_option maxRecDepth 100000
namespace Go.Proofs.Ytmkdbninmimndaa
open Go Go.Vm
theorem app_in4 {H : Heap} {b b2 : Nat} {x0 x1 x2 x3 : V} (h1 : H.get b = some (.cells (Blk.rep 4 [.int .u8 0]) 5)) (h2 : H.get b2 = some (.cells (Blk.of [x0, x1, x2, x3]) 5)) (ho : allOne [x0, x1, x2, x3] = true) : ∃ c r w, appE 5 1 1 (.slice (some (b, 0)) 0 4 true) (.slice (some (b2, 0)) 4 4 true) H = some ⟨.slice (some (b, 0)) 4 4 true, H.set b (.cells c 5), r, w⟩ ∧ c.size = 4 ∧ c.ro = false ∧ c.gets 0 4 = [x0, x1, x2, x3] ∧ ∀ y ∈ w, y = b := by
  obtain ⟨hx, rs, hf⟩ := first_lv (show LV H (.slice (some (b2, 0)) 4 4 true) [x0, x1, x2, x3] from .inr ⟨b2, 0, 4, true, _, 5, rfl, h2, by simp [Blk.of], rfl⟩)
  simp only [List.length_cons, List.length_nil] at hx hf
  simp only [appE, hx, hf]
  rw [w_beq_t (by rfl)]
  show ∃ c r w, appendIn H (some (b, 0)) 0 4 true 1 4 [x0, x1, x2, x3] rs = some _ ∧ _
  simp only [appendIn, h1, ho]
  exact ⟨_, _, _, rfl, rfl, rfl, rfl, fun y hy => by simpa using hy⟩
set_option maxHeartbeats 4000000 in
theorem bytes30_ok {h : Heap} {bx : Nat} {c : Blk} {op d a b imm : Int} (hb : h.get bx = some (.cells c 50)) (hs : c.size = 5) (c0 : c.get 0 = .int .i64 op) (c1 : c.get 1 = .int .i64 d) (c2 : c.get 2 = .int .i64 a) (c3 : c.get 3 = .int .i64 b) (c4 : c.get 4 = .int .i64 imm) : SF (Try.prog : MP) 30 [.slice (some (bx, 0)) 1 1 true] h (fun _ => True) (fun _ => False) fun v h' => (∃ s l, v = .tuple [s, .int .i64 0] ∧ Own h.n h' s l 5 ∧ l.length = 4 ∧ BytL l) ∨ v = .tuple [.slice none 0 0 true, .int .i64 2] := by
  refine SF.go hm Try.func30 ir30_eq ?_
  have e4 : (4 : Int) * ((1 : Nat) : Int) = 4 := rfl
  have e5 : (4 : Int).toNat = 4 := rfl
  have hbl := Heap.lt_of_get hb
  have lt1 : ¬ (1 : Int) < ((1 : Nat) : Int) := by decide
  have lt0 : (0 : Int) < ((1 : Nat) : Int) := by decide
  simp -implicitDefEqProofs (disch := (first | omega | (simp -implicitDefEqProofs only [szs, ne_eq] <;> omega) | fail)) only [go_sem, Nat.reduceAdd, Nat.reduceSub, Nat.reduceLT, Nat.reduceMod, Nat.reduceDiv, Nat.reduceLeDiff, ↓reduceIte, reduceCtorEq, Int.reduceLE, Int.reduceToNat, ir30, e4, e5]
  refine GLoop.inv hm (fun k f g => f.mks = [] ∧ f.tm.n = 43 ∧ f.tm.get 13 = some (.slice (some (bx, 0)) 1 1 true) ∧ f.tm.get 14 = some (.int .i64 ((1 : Nat) : Int)) ∧ ∃ i : Nat, i + k = 1 ∧ f.tm.get 15 = some (.int .i64 (i : Int)) ∧ g.get bx = some (.cells c 50) ∧ h.n + 1 ≤ g.n ∧ ((i = 0 ∧ f.tm.get 4 = some (.slice (some (h.n, 0)) 0 4 true) ∧ g.get h.n = some (.cells (Blk.rep 4 [.int .u8 0]) 5)) ∨ (i = 1 ∧ ∃ s l, f.tm.get 4 = some s ∧ Own h.n g s l 5 ∧ l.length = 4 ∧ BytL l))) 1 ?_ ?_
  · refine ⟨rfl, rfl, by simp -implicitDefEqProofs (disch := (first | omega | (simp -implicitDefEqProofs only [szs, ne_eq] <;> omega) | fail)) only [go_sem, Nat.reduceSub, Nat.reduceMod, Nat.reduceDiv, ↓reduceIte, reduceCtorEq], by simp -implicitDefEqProofs (disch := (first | omega | (simp -implicitDefEqProofs only [szs, ne_eq] <;> omega) | fail)) only [go_sem, Nat.reduceSub, Nat.reduceMod, Nat.reduceDiv, ↓reduceIte, reduceCtorEq], 0, by omega, by simp -implicitDefEqProofs (disch := (first | omega | (simp -implicitDefEqProofs only [szs, ne_eq] <;> omega) | fail)) only [go_sem, Nat.reduceMod, Nat.reduceDiv, ↓reduceIte, reduceCtorEq]; rfl, by simp -implicitDefEqProofs (disch := (first | omega | (simp -implicitDefEqProofs only [szs, ne_eq] <;> omega) | fail)) only [go_sem, hb], by simp, .inl ⟨rfl, by simp -implicitDefEqProofs (disch := (first | omega | (simp -implicitDefEqProofs only [szs, ne_eq] <;> omega) | fail)) only [go_sem, Nat.reduceSub, Nat.reduceMod, Nat.reduceDiv, ↓reduceIte, reduceCtorEq], w_push_eq rfl _⟩⟩
  rintro k ⟨⟨n', tr⟩, mks⟩ g ⟨hmk, hn', t13, t14, i, hik, t15, hb2, hgn, hc⟩
  simp only [Tm.get_mk] at hmk hn' t13 t14 t15 hc
  subst hmk hn'
  rcases hc with ⟨rfl, t4, hz⟩ | ⟨rfl, s, l, t4, ho, hl, hbt⟩
  · have hbg := Heap.lt_of_get hb2
    simp -implicitDefEqProofs (disch := (first | omega | (simp -implicitDefEqProofs only [szs, ne_eq] <;> omega) | fail)) only [go_sem, Nat.reduceAdd, Nat.reduceLT, Nat.reduceEqDiff, ↓reduceIte, ir30_l0, undefV, t13, t14, t15, hb2, hs, c0, c1, c2, c3, c4]
    refine ⟨by omega, ?_⟩
    refine GCall.of (((iword_ok op d a b imm _).kept).foot (fun _ h => h.elim) (fun _ h => h.elim)) ?_
    rintro r g3 ⟨rfl, vf⟩
    have hn3 := vf.n
    simp only [Heap.n_set, Heap.n_push] at hn3
    have k3 : ∀ b, b < g.n → g3.get b = g.get b := fun b hb => by
      rw [vf.get b (by simp only [Heap.n_set, Heap.n_push]; omega) (by simp), w_set_ne (by simp) (by omega), w_push_ne (by omega)]
    have z3 := (k3 h.n (by omega)).trans hz
    have b3 := (k3 bx (by omega)).trans hb2
    cases hmi : mayI op d a b imm with
    | false =>
      simp only [Bool.false_eq_true, if_false]
      simp -implicitDefEqProofs (disch := (first | omega | (simp -implicitDefEqProofs only [szs, ne_eq] <;> omega) | fail)) only [go_sem, Nat.reduceAdd, Nat.reduceLT, Nat.reduceEqDiff, ↓reduceIte]
    | true =>
      simp only [if_true]
      generalize wordI op d a b imm = w
      have w3 : h.n ≤ g3.n := by omega
      simp -implicitDefEqProofs (disch := (first | omega | (simp -implicitDefEqProofs only [szs, ne_eq] <;> omega) | fail)) only [go_sem, Nat.reduceAdd, Nat.reduceLT, Nat.reduceEqDiff, Nat.reduceLeDiff, ↓reduceIte, Int.reduceLT, Int.reduceToNat, t13, t14, t15, t4, ↓cv25_5, c25_5]
      generalize w.fdiv (2 ^ min 8 32) = y1
      generalize w.fdiv (2 ^ min 16 32) = y2
      generalize w.fdiv (2 ^ min 24 32) = y3
      have u8 : ∀ n : Int, ∃ m : Int, V.int .u8 (IntKind.u8.wrap n) = .int .u8 m ∧ 0 ≤ m ∧ m ≤ 255 := fun n => ⟨_, rfl, by simp only [IntKind.wrap, IntKind.signed, IntKind.bits]; simp; omega, by simp only [IntKind.wrap, IntKind.signed, IntKind.bits]; simp; omega⟩
      obtain ⟨cc, r', w', hap, g1, g2, g4, g5⟩ := app_in4 (H := g3.push (.cells (Blk.of [.int .u8 (IntKind.u8.wrap w), .int .u8 (IntKind.u8.wrap y1), .int .u8 (IntKind.u8.wrap y2), .int .u8 (IntKind.u8.wrap y3)]) 5)) (b := h.n) (b2 := g3.n) ((w_push_ne (by omega) _).trans z3) (w_push_eq rfl _) rfl
      rw [appendV_of ap_23, hap]
      refine ⟨allB_of fun _ _ => trivial, allB_of fun b hb => by rw [g5 b hb]; exact Nat.le_refl _, k - 1, by omega, 1, by omega, rfl, ?_, by simp only [Heap.n_set, Heap.n_push]; omega, .inr ⟨rfl, _, [.int .u8 (IntKind.u8.wrap w), .int .u8 (IntKind.u8.wrap y1), .int .u8 (IntKind.u8.wrap y2), .int .u8 (IntKind.u8.wrap y3)], rfl, .inr ⟨h.n, true, cc, by simp, rfl, Nat.le_refl _, w_set_eq (by simp only [Heap.n_push]; omega) rfl _, g1, g2, g4⟩, rfl, fun i hi => ?_⟩⟩
      · show ((g3.push _).set h.n _).get bx = _
        rw [w_set_ne (by simp only [Heap.n_push]; omega) (by omega), w_push_ne (by omega)]; exact b3
      · rcases (show i = 0 ∨ i = 1 ∨ i = 2 ∨ i = 3 by simp at hi; omega) with rfl | rfl | rfl | rfl
        · obtain ⟨m, e, e2⟩ := u8 w; exact ⟨m, by rw [← e]; rfl, e2⟩
        · obtain ⟨m, e, e2⟩ := u8 y1; exact ⟨m, by rw [← e]; rfl, e2⟩
        · obtain ⟨m, e, e2⟩ := u8 y2; exact ⟨m, by rw [← e]; rfl, e2⟩
        · obtain ⟨m, e, e2⟩ := u8 y3; exact ⟨m, by rw [← e]; rfl, e2⟩
  · simp -implicitDefEqProofs (disch := (first | omega | (simp -implicitDefEqProofs only [szs, ne_eq] <;> omega) | fail)) only [go_sem, Nat.reduceAdd, Nat.reduceLT, Nat.reduceEqDiff, ↓reduceIte, ir30_l0, t14, t15, t4]
    exact .inl ⟨s, l, rfl, ho, hl, hbt⟩
end Go.Proofs.Ytmkdbninmimndaa
