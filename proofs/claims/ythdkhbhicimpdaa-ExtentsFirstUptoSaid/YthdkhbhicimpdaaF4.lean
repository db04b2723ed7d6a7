/- Keeps of both. -/
import Derived.Test.YthdkhbhicimpdaaF3
set_option linter.unusedVariables false
set_option maxRecDepth 100000
namespace Go.Proofs.Ythdkhbhicimpdaa
open Go Go.Vm
attribute [-go_sem] sz_113
theorem ap_46 : apT Try.prog 46 46 = some (125, 2, 16) := by kernel_rfl
def keepF (f : Nat) (ks kw : Nat → Int) : Nat → List V
  | 0 => []
  | k + 1 => keepF f ks kw k ++ [.int .i64 ((f : Int) + ks k), .int .i64 (kw k)]
theorem app_pair {g : Heap} {n0 m : Nat} {v : V} {l : List V} {x y : Int} (ho : OwnS 2 n0 g v m l 125) (hn : n0 ≤ g.n) (hm : m ≤ 100000000) :
    ∃ v2 h2 r w, appE 125 2 16 v (.slice (some (g.n, 0)) 1 1 true) (g.push (.cells (Blk.of [.int .i64 x, .int .i64 y]) 125)) = some ⟨v2, h2, r, w⟩ ∧ g.n ≤ h2.n ∧ (∀ b, b < n0 → h2.get b = g.get b) ∧ OwnS 2 n0 h2 v2 (m + 1) (l ++ [.int .i64 x, .int .i64 y]) 125 ∧ (∀ b ∈ r, n0 ≤ b) ∧ ∀ b ∈ w, n0 ≤ b := by
  have ho2 : OwnS 2 n0 (g.push (.cells (Blk.of [.int .i64 x, .int .i64 y]) 125)) v m l 125 := ho.old fun b hb => by rw [w_push_ne (by omega)]
  obtain ⟨v2, h2, r, w, a1, a2, a3, a4, a5, a6, a7, a8⟩ := app_ownS (bytes := 16) (m := 1) (news := [.int .i64 x, .int .i64 y]) (rs := [g.n]) ho2 (by rw [Heap.n_push]; omega) (x := .slice (some (g.n, 0)) 1 1 true) rfl (firstS (w_push_eq rfl _) (Nat.le_refl _) rfl) rfl rfl (by omega) (by omega) (by omega)
  refine ⟨v2, h2, r, w, a1, by rw [Heap.n_push] at a3; omega, fun b hb => ?_, a2, fun b hb => ?_, a5⟩
  · rw [a4 b hb, w_push_ne (by omega)]
  · rcases a8 b hb with h | h
    · simp at h; omega
    · exact h
def keepOk (cnt : Nat) (ks : Nat → Int) (m : Nat) : Prop := ∀ j, j < m → 0 ≤ ks j ∧ ks j < cnt
def KeepsQ (h h' : Heap) (f cnt m : Nat) (ks kw : Nat → Int) (r : V) : Prop := h.n ≤ h'.n ∧ (∀ b, b < h.n → h'.get b = h.get b) ∧ ((¬ keepOk cnt ks m ∧ r = .tuple [.slice none 0 0 true, .int .i64 2]) ∨ (keepOk cnt ks m ∧ ∃ v, r = .tuple [v, .int .i64 0] ∧ OwnS 2 h.n h' v m (keepF f ks kw m) 125))
set_option maxHeartbeats 1000000 in
theorem rkeeps_ok {h : Heap} {R W SX Rk : Set'} {rx rd qb hb : Nat} {hk : Nat → Nat} {X : XS} (hr : RExt h SX rx rd qb hb hk X) (hR : ∀ b, R b) {i : Nat} (hi : i < X.n) {w : V} {m : Nat} {ks kw : Nat → Int} (hv : KeepV h Rk w m ks kw) (hm8 : m ≤ 10000000) :
    SF Try.prog 54 [.ptr (some (rx, 0)), .int .i64 i, w] h R W fun r h' => KeepsQ h h' (X.first i) (X.count i) m ks kw r := by
  have hlv := hv.len
  have hfit := hr.fit i hi
  refine SF.go hm Try.func54 ir54_eq ?_
  simp -implicitDefEqProofs (disch := (first | omega | fail)) only [go_sem, Nat.reduceAdd, Nat.reduceSub, Nat.reduceLT, Nat.reduceMod, Nat.reduceDiv, ↓reduceIte, reduceCtorEq, ir54]
  refine GCall.of (rin_ok hr (fun b _ => .inr (hR b)) i) ?_
  rintro v h' ⟨rfl, rfl⟩
  rw [decide_eq_true (show 0 ≤ (i : Int) ∧ (i : Int) < X.n by omega)]
  simp -implicitDefEqProofs (disch := (first | omega | fail)) only [go_sem, Nat.reduceAdd, Nat.reduceSub, Nat.reduceLT, Nat.reduceMod, Nat.reduceDiv, ↓reduceIte, reduceCtorEq]
  refine GCall.of (rpart_ok hr (fun b _ => .inr (hR b)) i) ?_
  rintro v h1 ⟨rfl, rfl⟩
  rw [partV_in hi]
  simp -implicitDefEqProofs (disch := (first | omega | fail)) only [go_sem, Nat.reduceAdd, Nat.reduceSub, Nat.reduceLT, Nat.reduceMod, Nat.reduceDiv, ↓reduceIte, reduceCtorEq]
  refine GLoop.inv hm (fun k f g => f.mks = [] ∧ f.tm.n = 64 ∧ f.tm.get 2 = some w ∧ f.tm.get 8 = some (.int .i64 (X.first i)) ∧ f.tm.get 9 = some (.int .i64 (X.count i)) ∧ h1.n ≤ g.n ∧ (∀ b, b < h1.n → g.get b = h1.get b) ∧ ∃ (j : Nat) (v : V), j + k = m ∧ f.tm.get 12 = some (.int .i64 j) ∧ f.tm.get 11 = some v ∧ keepOk (X.count i) ks j ∧ OwnS 2 h1.n g v j (keepF (X.first i) ks kw j) 125) m ?_ ?_
  · exact ⟨rfl, rfl, by simp -implicitDefEqProofs (disch := (first | omega | fail)) only [go_sem, Nat.reduceSub, Nat.reduceMod, Nat.reduceDiv, ↓reduceIte, reduceCtorEq], by simp -implicitDefEqProofs (disch := (first | omega | fail)) only [go_sem, Nat.reduceSub, Nat.reduceMod, Nat.reduceDiv, ↓reduceIte, reduceCtorEq], by simp -implicitDefEqProofs (disch := (first | omega | fail)) only [go_sem, Nat.reduceSub, Nat.reduceMod, Nat.reduceDiv, ↓reduceIte, reduceCtorEq], Nat.le_refl _, fun _ _ => rfl, 0, _, by omega, by simp -implicitDefEqProofs (disch := (first | omega | fail)) only [go_sem, Nat.reduceSub, Nat.reduceMod, Nat.reduceDiv, ↓reduceIte, reduceCtorEq]; rfl, by simp -implicitDefEqProofs (disch := (first | omega | fail)) only [go_sem, Nat.reduceSub, Nat.reduceMod, Nat.reduceDiv, ↓reduceIte, reduceCtorEq], fun j hj => by omega, OwnS.nil _ _ _ _⟩
  rintro k ⟨⟨n', tr⟩, mks⟩ g ⟨hmk, hn', t2, t8, t9, gn, hold, j, v, hj, t12, t11, hok, ho⟩
  simp only [Tm.get_mk] at hmk hn' t2 t8 t9 t11 t12
  subst hmk hn'
  by_cases hjm : j < m
  · rcases hv.2 with ⟨h0, _⟩ | ⟨b, o, cap, ex, c, ce, rfl, hRk, hb', hsz, hget⟩
    · omega
    obtain ⟨g0, g1⟩ := hget j hjm
    have hbg := (hold b (Heap.lt_of_get hb')).trans hb'
    have hRb := hR b
    by_cases h0 : ks j < 0
    · simp -implicitDefEqProofs (disch := (first | omega | fail)) only [go_sem, Nat.reduceAdd, Nat.reduceLT, Nat.reduceEqDiff, ↓reduceIte, ir54_l0, t2, t12, hbg, g0, hRb]
      exact ⟨gn, hold, .inl ⟨fun hh => by have := (hh j hjm).1; omega, rfl⟩⟩
    · by_cases h2 : ks j ≥ X.count i
      · have h2' : (X.count i : Int) ≤ ks j := h2
        simp -implicitDefEqProofs (disch := (first | omega | fail)) only [go_sem, Nat.reduceAdd, Nat.reduceLT, Nat.reduceEqDiff, ↓reduceIte, ir54_l0, t2, t9, t12, hbg, g0, hRb]
        exact ⟨gn, hold, .inl ⟨fun hh => by have := (hh j hjm).2; omega, rfl⟩⟩
      · have h3 : ks j < X.count i := by omega
        have hok' : keepOk (X.count i) ks (j + 1) := fun a ha => by
          by_cases e : a = j
          · subst e; exact ⟨by omega, h3⟩
          · exact hok a (by omega)
        obtain ⟨v2, h2, r, w', a1, a2, a3, a4, a5, a6⟩ := app_pair (x := (X.first i : Int) + ks j) (y := kw j) ho gn (by omega)
        have hr' : allB (fun b => h1.n ≤ b ∨ R b) r := allB_of fun b hb => .inl (a5 b hb)
        have hw' : allB (fun b => h1.n ≤ b ∨ W b) w' := allB_of fun b hb => .inl (a6 b hb)
        simp -implicitDefEqProofs (disch := (first | omega | fail)) only [go_sem, Nat.reduceAdd, Nat.reduceLT, Nat.reduceEqDiff, Nat.reduceLeDiff, ↓reduceIte, ir54_l0, t2, t8, t9, t11, t12, hbg, g0, g1, hRb, appendV_of ap_46, ↓a1]
        simp only [List.not_mem_nil, or_false, false_or, and_false, implies_true, not_false_eq_true, and_true, true_and]
        exact ⟨⟨fun b _ hb => .inl (a5 b hb), fun b _ hb => .inl (a6 b hb)⟩, k - 1, by omega, by omega, fun b hb => by rw [a3 b hb]; exact hold b hb, j + 1, v2, by omega, congrArg _ (by omega), rfl, hok', a4⟩
  · have : j = m := by omega
    subst this
    simp -implicitDefEqProofs (disch := (first | omega | fail)) only [go_sem, Nat.reduceAdd, Nat.reduceLT, Nat.reduceEqDiff, ↓reduceIte, ir54_l0, t2, t11, t12, ↓hlv]
    exact ⟨gn, hold, .inr ⟨hok, _, rfl, ho⟩⟩
end Go.Proofs.Ythdkhbhicimpdaa
