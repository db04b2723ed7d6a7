/- Code: the bytes of instructions, those that may not be left out. -/
import Derived.Test.YtmkdbninmimndaaF4
import Derived.Test.YtmkdbninmimndaaM4
set_option linter.unusedVariables false
set_option maxRecDepth 100000
namespace Go.Proofs.Ytmkdbninmimndaa
open Go Go.Vm
structure CodeV (h : Heap) (v : V) (m : Nat) : Prop where
  len : m ≤ 9223372036854775807
  at' : (m = 0 ∧ (v = .slice none 0 0 true ∨ ∃ a, v = .esl a)) ∨ ∃ b o cap ex c ce, v = .slice (some (b, o)) m cap ex ∧ h.get b = some (.cells c ce) ∧ o + m * 5 ≤ c.size ∧ ∀ i, i < m → ∃ op d a b2 imm : Int, c.get (o + i * 5) = .int .i64 op ∧ c.get (o + i * 5 + 1) = .int .i64 d ∧ c.get (o + i * 5 + 2) = .int .i64 a ∧ c.get (o + i * 5 + 3) = .int .i64 b2 ∧ c.get (o + i * 5 + 4) = .int .i64 imm
theorem CodeV.old {h h' : Heap} {v : V} {m : Nat} (hv : CodeV h v m) (hk : ∀ b, b < h.n → h'.get b = h.get b) : CodeV h' v m := by
  refine ⟨hv.len, hv.at'.imp id ?_⟩
  rintro ⟨b, o, cap, ex, c, ce, e, hb, hs⟩
  exact ⟨b, o, cap, ex, c, ce, e, by rw [hk _ (Heap.lt_of_get hb)]; exact hb, hs⟩
theorem CodeV.lenV {h : Heap} {v : V} {m : Nat} (hv : CodeV h v m) (g : Heap) : lenV Try.prog 22 v g = some (m, []) := by
  rcases hv.at' with ⟨rfl, rfl | ⟨a, rfl⟩⟩ | ⟨b, o, cap, ex, c, ce, rfl, _⟩ <;> simp [Vm.lenV, Try.underlying22]
theorem CodeV.one {h : Heap} {v : V} {m : Nat} (hv : CodeV h v m) : v.one = true := by
  rcases hv.at' with ⟨rfl, rfl | ⟨a, rfl⟩⟩ | ⟨b, o, cap, ex, c, ce, rfl, _⟩ <;> rfl
theorem allOne_bytL {l : List V} (h : BytL l) : allOne l = true := by
  refine allOne_byt fun v hv => ?_
  obtain ⟨i, hi, e⟩ := List.mem_iff_getElem.1 hv
  obtain ⟨n, e2, hn⟩ := h i hi
  rw [List.getElem?_eq_getElem hi, e] at e2
  exact ⟨n, Option.some.inj e2, hn⟩
theorem BytL.app {l l' : List V} (h : BytL l) (h' : BytL l') : BytL (l ++ l') := fun i hi => by
  by_cases hl : i < l.length
  · rw [List.getElem?_append_left hl]; exact h i hl
  · rw [List.getElem?_append_right (by omega)]
    rw [List.length_append] at hi
    exact h' _ (by omega)
set_option maxHeartbeats 4000000 in
theorem code_ok {h : Heap} {v : V} {m : Nat} (hv : CodeV h v m) (hm4 : m ≤ 1000) : SF (Try.prog : MP) 15 [v] h (fun _ => True) (fun _ => False) fun r h' => ∃ l, Own h.n h' r l 5 ∧ l.length ≤ 4 * m ∧ BytL l := by
  have hlen := hv.lenV
  refine SF.go hm Try.func15 ir15_eq ?_
  simp -implicitDefEqProofs (disch := (first | omega | fail)) only [go_sem, Nat.reduceAdd, Nat.reduceSub, Nat.reduceLT, Nat.reduceMod, Nat.reduceDiv, ↓reduceIte, reduceCtorEq, ir15]
  refine GLoop.inv hm (fun k f g => f.mks = [] ∧ f.tm.n = 28 ∧ f.tm.get 0 = some v ∧ h.n ≤ g.n ∧ (∀ b, b < h.n → g.get b = h.get b) ∧ ∃ (i : Nat) (s : V) (l : List V), i + k = m ∧ f.tm.get 4 = some (.int .i64 (i : Int)) ∧ f.tm.get 3 = some s ∧ Own h.n g s l 5 ∧ l.length ≤ 4 * i ∧ BytL l) m ?_ ?_
  · exact ⟨rfl, rfl, by simp -implicitDefEqProofs (disch := (first | omega | fail)) only [go_sem, ↓reduceIte], Nat.le_refl _, fun _ _ => rfl, 0, _, [], by omega, by simp -implicitDefEqProofs (disch := (first | omega | fail)) only [go_sem, Nat.reduceSub, Nat.reduceMod, Nat.reduceDiv, ↓reduceIte, reduceCtorEq]; rfl, by simp -implicitDefEqProofs (disch := (first | omega | fail)) only [go_sem, Nat.reduceMod, Nat.reduceDiv, ↓reduceIte, reduceCtorEq], .inl ⟨rfl, .inl rfl⟩, by simp, fun i hi => by simp at hi⟩
  rintro k ⟨⟨n', tr⟩, mks⟩ g ⟨hmk, hn', t0, hgn, hold, i, s, l, hik, t4, t3, ho, hll, hbt⟩
  simp only [Tm.get_mk] at hmk hn' t0 t4 t3
  subst hmk hn'
  by_cases hin : i < m
  · rcases (hv.old hold).at' with ⟨h0, _⟩ | ⟨b, o, cap, ex, c, ce, rfl, hb, hsz, hc⟩
    · omega
    obtain ⟨op, d, a, b2, imm, c0, c1, c2, c3, c4⟩ := hc i hin
    have hbl := Heap.lt_of_get hb
    simp -implicitDefEqProofs (disch := (first | omega | fail)) only [go_sem, Nat.reduceAdd, Nat.reduceLT, Nat.reduceEqDiff, ↓reduceIte, reduceCtorEq, ir15_l0, t0, t4, ↓hlen, hb, c0, c1, c2, c3, c4]
    refine GCall.of ((bytes30_ok (bx := g.n) (h := g.push _) (w_push_eq rfl _) rfl rfl rfl rfl rfl rfl).kept.foot (fun _ h => h) (fun _ h => h.elim)) ?_
    rintro r g2 ⟨hres, vf⟩
    have hn2 := vf.n
    simp only [Heap.n_push] at hn2
    have k2 : ∀ b, b < g.n → g2.get b = g.get b := fun b hb => by
      rw [vf.get b (by simp only [Heap.n_push]; omega) (by simp), w_push_ne (by omega)]
    have ho2 := ho.old k2
    rcases hres with ⟨s2, l2, rfl, o2, hl2, hb2⟩ | rfl
    · obtain ⟨hx, rs, hf⟩ := first_lv o2.lv
      obtain ⟨v3, g3, r3, w3, hap, o3, hn3, k3, hw3⟩ := app_own (e := 5) (bytes := 1) ho2 (by omega) hx hf (allOne_bytL hb2) (by omega) (by omega)
      simp -implicitDefEqProofs (disch := (first | omega | fail)) only [go_sem, Nat.reduceAdd, Nat.reduceLT, Nat.reduceEqDiff, ↓reduceIte, reduceCtorEq, t0, t3, t4, appendV_of ap_23, hap]
      refine ⟨allB_of fun _ _ => trivial, allB_of fun b hb => hw3 b hb, k - 1, by omega, by omega, fun b hb => by rw [k3 b hb, k2 b (by omega), hold b hb], i + 1, v3, l ++ l2, by omega, rfl, rfl, o3, by rw [List.length_append]; omega, hbt.app hb2⟩
    · simp -implicitDefEqProofs (disch := (first | omega | fail)) only [go_sem, Nat.reduceAdd, Nat.reduceLT, Nat.reduceEqDiff, ↓reduceIte, reduceCtorEq, t0, t3, t4]
      exact ⟨k - 1, by omega, by omega, fun b hb => by rw [k2 b (by omega), hold b hb], i + 1, s, l, by omega, rfl, rfl, ho2, by omega, hbt⟩
  · obtain rfl : i = m := by omega
    simp -implicitDefEqProofs (disch := (first | omega | fail)) only [go_sem, Nat.reduceAdd, Nat.reduceLT, Nat.reduceEqDiff, ↓reduceIte, reduceCtorEq, ir15_l0, t0, t3, t4, ↓hlen]
    exact ⟨l, ho, hll, hbt⟩
end Go.Proofs.Ytmkdbninmimndaa
