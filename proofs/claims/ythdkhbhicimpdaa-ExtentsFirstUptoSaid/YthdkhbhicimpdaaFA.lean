/- Two lists of what is kept, compared. -/
import Derived.Test.YthdkhbhicimpdaaF9
set_option linter.unusedVariables false
set_option maxRecDepth 100000
namespace Go.Proofs.Ythdkhbhicimpdaa
open Go Go.Vm
attribute [-go_sem] sz_113
theorem keepF_len (f : Nat) (ks kw : Nat → Int) : ∀ m, (keepF f ks kw m).length = m * 2
  | 0 => rfl
  | m + 1 => by simp only [keepF, List.length_append, keepF_len f ks kw m, List.length_cons, List.length_nil]; omega
theorem keepF_at (f : Nat) (ks kw : Nat → Int) : ∀ {m j : Nat}, j < m → (keepF f ks kw m).getD (j * 2) undefV = .int .i64 ((f : Int) + ks j) ∧ (keepF f ks kw m).getD (j * 2 + 1) undefV = .int .i64 (kw j)
  | m + 1, j, h => by
    have hl := keepF_len f ks kw m
    simp only [keepF, List.getD_eq_getElem?_getD]
    by_cases e : j = m
    · subst e
      rw [List.getElem?_append_right (by omega), List.getElem?_append_right (by omega), hl]
      simp
    · rw [List.getElem?_append_left (by omega), List.getElem?_append_left (by omega)]
      have := keepF_at f ks kw (m := m) (j := j) (by omega)
      simpa only [List.getD_eq_getElem?_getD] using this
theorem eg_125 : Try.prog.eqGuardType Try.prog.depth 125 = false := by kernel_rfl
theorem kp_eq (x y : Int) : eqD Try.prog 10 125 (.agg [.int .i64 x, .int .i64 y]) (.agg [.int .i64 x, .int .i64 y]) = some true := by
  have e : ∀ a a' b b' : Int, eqD Try.prog 10 125 (.agg [.int .i64 a, .int .i64 b]) (.agg [.int .i64 a', .int .i64 b']) = (match (a == a') with | true => (match (b == b') with | true => some true | false => some false) | false => some false) := fun _ _ _ _ => by kernel_rfl
  rw [e]
  simp
theorem ownS_pair {n0 m j : Nat} {h : Heap} {v : V} {f : Nat} {ks kw : Nat → Int} (ho : OwnS 2 n0 h v m (keepF f ks kw m) 125) (hj : j < m) : ∃ b x c, v = .slice (some (b, 0)) m m x ∧ h.get b = some (.cells c 125) ∧ c.size = m * 2 ∧ c.get (j * 2) = .int .i64 ((f : Int) + ks j) ∧ c.get (j * 2 + 1) = .int .i64 (kw j) := by
  rcases ho.2 with ⟨h0, _⟩ | ⟨b, x, c, h0, rfl, hb0, hb1, hbs, hbr, hbg⟩
  · omega
  have hgd : ∀ i, i < m * 2 → c.get i = (keepF f ks kw m).getD i undefV := fun i hi => by
    have := Blk.gets_get c (m * 2) 0 i hi
    rw [hbg, Nat.zero_add] at this
    rw [List.getD_eq_getElem?_getD, this]; rfl
  obtain ⟨e1, e2⟩ := keepF_at f ks kw hj
  exact ⟨b, x, c, rfl, hb1, hbs, (hgd _ (by omega)).trans e1, (hgd _ (by omega)).trans e2⟩
theorem keeps_ok {h : Heap} {R W : Set'} {n0 n1 m f : Nat} {v1 v2 : V} {ks kw : Nat → Int} (h1 : OwnS 2 n0 h v1 m (keepF f ks kw m) 125) (h2 : OwnS 2 n1 h v2 m (keepF f ks kw m) 125) (hR : ∀ b, R b) (hm8 : m ≤ 10000000) : SF Try.prog 55 [v1, v2] h R W fun r h' => r = .bool true ∧ h' = h := by
  have l1 := h1.lr.lenV Try.underlying46
  have l2 := h2.lr.lenV Try.underlying46
  have hne : ∀ x : Int, (x != x) = false := fun x => by simp
  refine SF.go hm Try.func55 ir55_eq ?_
  simp -implicitDefEqProofs (disch := (first | omega | fail)) only [go_sem, Nat.reduceAdd, Nat.reduceSub, Nat.reduceLT, Nat.reduceMod, Nat.reduceDiv, ↓reduceIte, reduceCtorEq, ir55, ↓l1, ↓l2, hne]
  refine GLoop.inv hm (fun k f g => g = h ∧ f.mks = [] ∧ f.tm.n = 26 ∧ f.tm.get 0 = some v1 ∧ f.tm.get 1 = some v2 ∧ ∃ j : Nat, j + k = m ∧ f.tm.get 5 = some (.int .i64 j)) m ?_ ?_
  · exact ⟨rfl, rfl, rfl, by simp -implicitDefEqProofs (disch := (first | omega | fail)) only [go_sem, ↓reduceIte], by simp -implicitDefEqProofs (disch := (first | omega | fail)) only [go_sem, Nat.reduceDiv, ↓reduceIte, reduceCtorEq], 0, by omega, by simp -implicitDefEqProofs (disch := (first | omega | fail)) only [go_sem, Nat.reduceSub, Nat.reduceMod, Nat.reduceDiv, ↓reduceIte, reduceCtorEq]; rfl⟩
  rintro k ⟨⟨n', tr⟩, mks⟩ g ⟨rfl, hmk, hn', t0, t1, j, hj, t5⟩
  simp only [Tm.get_mk] at hmk hn' t0 t1 t5
  subst hmk hn'
  by_cases hjm : j < m
  · obtain ⟨b, x, c, rfl, c1, c2, c3, c4⟩ := ownS_pair h1 hjm
    obtain ⟨b', x', c', rfl, d1, d2, d3, d4⟩ := ownS_pair h2 hjm
    have hb := hR b
    have hb' := hR b'
    have he := kp_eq ((f : Int) + ks j) (kw j)
    simp -implicitDefEqProofs (disch := (first | omega | fail)) only [go_sem, Nat.reduceAdd, Nat.reduceLT, Nat.reduceEqDiff, ↓reduceIte, reduceCtorEq, ir55_l0, t0, t1, t5, c1, c2, c3, c4, d1, d2, d3, d4, hb, hb', eg_125, ↓he]
    exact ⟨k - 1, by omega, j + 1, by omega, congrArg _ (by omega)⟩
  · simp -implicitDefEqProofs (disch := (first | omega | fail)) only [go_sem, Nat.reduceAdd, Nat.reduceLT, Nat.reduceEqDiff, ↓reduceIte, reduceCtorEq, ir55_l0, t0, t5, ↓l1]
end Go.Proofs.Ythdkhbhicimpdaa
