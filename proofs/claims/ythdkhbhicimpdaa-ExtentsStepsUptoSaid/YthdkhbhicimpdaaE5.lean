/- The document's Runs. -/
import Derived.Test.YthdkhbhicimpdaaE4
set_option linter.unusedVariables false
set_option maxRecDepth 100000
namespace Go.Proofs.Ythdkhbhicimpdaa
open Go Go.Vm
theorem ap_121 : apT Try.prog 121 121 = some (118, 2, 16) := by kernel_rfl
def flatR (xs : List (Nat × Nat)) : List V := xs.flatMap fun x => [.int .i64 x.1, .int .i64 x.2]
theorem flatR_len : ∀ xs, (flatR xs).length = xs.length * 2
  | [] => rfl
  | x :: r => by
    have := flatR_len r
    simp only [flatR, List.flatMap_cons, List.length_append, List.length_cons, List.length_nil] at this ⊢
    omega
theorem flatR_app (xs ys : List (Nat × Nat)) : flatR (xs ++ ys) = flatR xs ++ flatR ys := by simp [flatR]
theorem flatR_at {xs : List (Nat × Nat)} {i : Nat} {x : Nat × Nat} (h : xs[i]? = some x) : (flatR xs).getD (i * 2) undefV = .int .i64 x.1 ∧ (flatR xs).getD (i * 2 + 1) undefV = .int .i64 x.2 := by
  induction xs generalizing i with
  | nil => simp at h
  | cons y r ih =>
    cases i with
    | zero => simp at h; subst h; simp [flatR]
    | succ i =>
      have := ih (by simpa using h)
      have e : flatR (y :: r) = [.int .i64 y.1, .int .i64 y.2] ++ flatR r := rfl
      rw [e, show (i + 1) * 2 = (i * 2) + 1 + 1 by omega, show (i * 2) + 1 + 1 + 1 = (i * 2 + 1) + 1 + 1 by omega]
      exact this
theorem flatR_inc (d : List (Nat × Nat)) (x : Nat × Nat) (v : Nat) : (flatR (d ++ [x])).set (d.length * 2 + 1) (.int .i64 v) = flatR (d ++ [(x.1, v)]) := by
  rw [flatR_app, flatR_app, List.set_append_right _ _ (by rw [flatR_len]; omega), flatR_len, show d.length * 2 + 1 - d.length * 2 = 1 by omega]
  rfl
set_option maxHeartbeats 4000000 in
theorem rruns_ok {h : Heap} {R W S : Set'} {rx rd qb hb : Nat} {hk : Nat → Nat} {X : XS} (hr : RExt h S rx rd qb hb hk X) (hS : ∀ b, S b → b < h.n) (hR : ∀ b, S b → R b) {i : Nat} (hi : i < X.n) :
    SF Try.prog 66 [.ptr (some (rx, 0)), .int .i64 i] h R W fun v h' => h.n ≤ h'.n ∧ (∀ b, b < h.n → h'.get b = h.get b) ∧ OwnS 2 h.n h' v (rl (X.has i) (X.count i)).length (flatR (rl (X.has i) (X.count i))) 118 := by
  obtain ⟨c, xq, xh, x1, x2, x3, x4, x5, x6⟩ := hr.x
  obtain ⟨vv, v1, v2, v3, v4⟩ := hr.v
  have hR1 := hR rx hr.s.1
  have hR2 := hR hb hr.s.2.2.1
  have hl1 := hS rx hr.s.1
  have hl2 := hS hb hr.s.2.2.1
  obtain ⟨w1, w2, w3⟩ := v4 i hi
  have hc := hr.fit i hi
  have i0 : (0 : Int) ≤ (i : Int) := by omega
  have i1 : (i : Int) < (X.n : Nat) := by omega
  have is : i < vv.size := by omega
  have ha : 0 ≤ (i : Int) ∧ (i : Int) < X.n := by omega
  refine SF.go hm Try.func66 ir66_eq ?_
  simp -implicitDefEqProofs (disch := (first | omega | fail)) only [go_sem, Nat.reduceAdd, Nat.reduceSub, Nat.reduceLT, Nat.reduceMod, Nat.reduceDiv, ↓reduceIte, reduceCtorEq, ir66]
  refine GLoop.inv hm (fun k f g => f.mks = [] ∧ f.tm.n = 73 ∧ f.tm.get 0 = some (.ptr (some (rx, 0))) ∧ f.tm.get 1 = some (.int .i64 i) ∧ h.n ≤ g.n ∧ (∀ b, b < h.n → g.get b = h.get b) ∧ ∃ (p : Nat) (v : V), p + k = X.count i ∧ f.tm.get 6 = some (.int .i64 p) ∧ f.tm.get 5 = some v ∧ OwnS 2 h.n g v (rl (X.has i) p).length (flatR (rl (X.has i) p)) 118) (X.count i) ?_ ?_
  · exact ⟨rfl, rfl, by simp -implicitDefEqProofs (disch := (first | omega | fail)) only [go_sem, ↓reduceIte], by simp -implicitDefEqProofs (disch := (first | omega | fail)) only [go_sem, Nat.reduceDiv, ↓reduceIte, reduceCtorEq], Nat.le_refl _, fun _ _ => rfl, 0, _, by omega, by simp -implicitDefEqProofs (disch := (first | omega | fail)) only [go_sem, Nat.reduceSub, Nat.reduceMod, Nat.reduceDiv, ↓reduceIte, reduceCtorEq]; rfl, by simp -implicitDefEqProofs (disch := (first | omega | fail)) only [go_sem, Nat.reduceSub, Nat.reduceMod, Nat.reduceDiv, ↓reduceIte, reduceCtorEq], OwnS.nil _ _ _ _⟩
  rintro k ⟨⟨n', tr⟩, mks⟩ g ⟨hmk, hn', t0, t1, gn, hold, p, v, hpk, t6, t5, ho⟩
  simp only [Tm.get_mk] at hmk hn' t0 t1 t5 t6
  subst hmk hn'
  have hrg := hr.old hold
  have x1g := (hold rx hl1).trans x1
  have v1g := (hold hb hl2).trans v1
  simp -implicitDefEqProofs (disch := (first | omega | fail)) only [go_sem, Nat.reduceAdd, Nat.reduceLT, Nat.reduceEqDiff, ↓reduceIte, ir66_l0, t0, t1]
  refine GCall.of (rin_ok hrg (fun b hb => .inr (hR b hb)) i) ?_
  rintro v' g' ⟨rfl, rfl⟩
  rw [decide_eq_true ha]
  by_cases hp : p < X.count i
  · obtain ⟨xk, w4⟩ := w3 (by omega)
    obtain ⟨cb, b1, b2, b3, b4⟩ := hr.b i hi (by omega)
    have hb4 := b4 p hp
    have hsk := hr.s.2.2.2 i hi (by omega)
    have hR3 := hR (hk i) hsk
    have b1g := (hold _ (hS _ hsk)).trans b1
    have p0 : (0 : Int) ≤ (p : Int) := by omega
    have p1 : (p : Int) < (X.count i : Nat) := by omega
    have ps : p < cb.size := by omega
    have hlen := rl_len (X.has i) p
    cases hh : X.has i p with
    | false =>
      rw [hh] at hb4
      simp -implicitDefEqProofs (disch := (first | omega | fail)) only [go_sem, Nat.reduceAdd, Nat.reduceLT, Nat.reduceEqDiff, ↓reduceIte, reduceCtorEq, t0, t1, t5, t6, x1g, x2, x6, hR1, hR2, hR3, v1g, w4, i0, i1, b1g, hb4, p0, p1]
      exact ⟨k - 1, by omega, gn, hold, p + 1, v, by omega, by simp, rfl, by rw [(rl_skip hh).1]; exact ho⟩
    | true =>
      rw [hh] at hb4
      have hlv := ho.lr.lenV Try.underlying121
      -- the append's end
      have app : ∀ {g2 : Heap}, g2.n = g'.n → (∀ b, b < g'.n → g2.get b = g'.get b) → rl (X.has i) (p + 1) = rl (X.has i) p ++ [(p, 1)] → ∃ v2 h2 r w, appE 118 2 16 v (.slice (some (g2.n, 0)) 1 1 true) (g2.push (.cells (Blk.of [.int .i64 p, .int .i64 1]) 118)) = some ⟨v2, h2, r, w⟩ ∧ h.n ≤ h2.n ∧ (∀ b, b < h.n → h2.get b = h.get b) ∧ OwnS 2 h.n h2 v2 (rl (X.has i) (p + 1)).length (flatR (rl (X.has i) (p + 1))) 118 ∧ allB (fun b => h.n ≤ b ∨ R b) r ∧ allB (fun b => h.n ≤ b ∨ W b) w := fun {g2} en ek er => by
        have ho2 : OwnS 2 h.n (g2.push (.cells (Blk.of [.int .i64 p, .int .i64 1]) 118)) v (rl (X.has i) p).length (flatR (rl (X.has i) p)) 118 := ho.old fun b hb => by rw [w_push_ne (by omega)]; exact ek b hb
        obtain ⟨v2, h2, r, w, a1, a2, a3, a4, a5, a6, a7, a8⟩ := app_ownS (bytes := 16) (m := 1) (news := [.int .i64 p, .int .i64 1]) (rs := [g2.n]) ho2 (by rw [Heap.n_push]; omega) (x := .slice (some (g2.n, 0)) 1 1 true) rfl (firstS (w_push_eq rfl _) (Nat.le_refl _) rfl) rfl rfl (by omega) (by omega) (by omega)
        refine ⟨v2, h2, r, w, a1, by rw [Heap.n_push] at a3; omega, fun b hb => ?_, ?_, allB_of fun b hb => ?_, allB_of fun b hb => .inl (a5 b hb)⟩
        · rw [a4 b hb, w_push_ne (by omega), ek b (by omega)]; exact hold b hb
        · rw [er, flatR_app, List.length_append]; exact a2
        · rcases a8 b hb with h | h
          · simp at h; exact .inl (by omega)
          · exact .inl h
      rcases List.eq_nil_or_concat (rl (X.has i) p) with he | ⟨d, x, he⟩
      · have er : rl (X.has i) (p + 1) = rl (X.has i) p ++ [(p, 1)] := by rw [rl_succ, if_neg (by rw [hh]; simp), he]; rfl
        obtain ⟨v2, h2, r, w, a1, a2, a3, a4, a5, a6⟩ := app rfl (fun _ _ => rfl) er
        rw [he, List.length_nil] at hlv
        simp -implicitDefEqProofs (disch := (first | omega | fail)) only [go_sem, Nat.reduceAdd, Nat.reduceLT, Nat.reduceEqDiff, Nat.reduceLeDiff, ↓reduceIte, reduceCtorEq, t0, t1, t5, t6, undefV, x1g, x2, x6, hR1, hR2, hR3, v1g, w4, i0, i1, b1g, hb4, p0, p1, ↓hlv, appendV_of ap_121, ↓a1, a5, a6]
        refine ⟨?_, k - 1, by omega, a2, a3, p + 1, v2, by omega, by simp, rfl, a4⟩
        and_intros
        all_goals (intros; exact False.elim ‹False›)
      · rw [List.concat_eq_append] at he
        have hx : x ∈ rl (X.has i) p := by rw [he]; simp
        have hxe := rl_end (X.has i) p x hx
        have hnl : (rl (X.has i) p).length = d.length + 1 := by rw [he]; simp
        have hgl : (rl (X.has i) p).getLast? = some x := by rw [he]; simp
        rcases ho.2 with ⟨h0, _⟩ | ⟨b, ex, cb2, h0, rfl, hb0, hb1, hbs, hbr, hbg⟩
        · omega
        have hgd : ∀ j, j < (rl (X.has i) p).length * 2 → cb2.get j = (flatR (rl (X.has i) p)).getD j undefV := fun j hj => by
          have := Blk.gets_get cb2 ((rl (X.has i) p).length * 2) 0 j hj
          rw [hbg, Nat.zero_add] at this
          rw [List.getD_eq_getElem?_getD, this]; rfl
        obtain ⟨y1, y2⟩ := flatR_at (xs := rl (X.has i) p) (i := d.length) (x := x) (by rw [he]; simp)
        have z1 := (hgd (d.length * 2) (by omega)).trans y1
        have z2 := (hgd (d.length * 2 + 1) (by omega)).trans y2
        have zs : d.length * 2 + 1 < cb2.size := by omega
        have hRb : h.n ≤ b ∨ R b := .inl hb0
        have hWb : h.n ≤ b ∨ W b := .inl hb0
        have l0 : ((d.length + 1 : Nat) : Int) > 0 := by omega
        have l1 : ((d.length + 1 : Nat) : Int) - 1 = (d.length : Int) := by omega
        have l2 : (0 : Int) ≤ (d.length : Int) := by omega
        have l3 : (d.length : Int) < ((d.length + 1 : Nat) : Int) := by omega
        by_cases hend : x.1 + x.2 = p
        · have hbq : ((x.1 : Int) + (x.2 : Int) == (p : Int)) = true := by simp; omega
          rw [hnl] at hlv ho
          simp -implicitDefEqProofs (disch := (first | omega | fail)) only [go_sem, Nat.reduceAdd, Nat.reduceLT, Nat.reduceEqDiff, ↓reduceIte, reduceCtorEq, t0, t1, t5, t6, undefV, x1g, x2, x6, hR1, hR2, hR3, v1g, w4, i0, i1, b1g, hb4, p0, p1, hnl, l0, l1, l2, l3, hRb, hWb, hb1, hbr, z1, z2, hbq]
          have hbl := Heap.lt_of_get hb1
          have er : rl (X.has i) (p + 1) = d ++ [(x.1, x.2 + 1)] := by rw [rl_succ, if_neg (by rw [hh]; simp), hgl]; simp only [hend, if_true]; rw [he]; simp
          refine ⟨k - 1, by omega, by simpa using gn, fun b' hb' => by rw [w_set_ne hbl (by omega)]; exact hold b' hb', p + 1, _, by omega, by simp, rfl, ?_⟩
          rw [er]
          refine ⟨by rw [flatR_len], .inr ⟨b, ex, cb2.set (d.length * 2 + 1) (.int .i64 ((x.2 : Int) + 1)), by simp, by simp, hb0, by rw [w_set_eq hbl rfl], by rw [Blk.size_set, hbs, hnl]; simp, by rw [Blk.ro_set]; exact hbr, ?_⟩⟩
          have := flatR_inc d x (x.2 + 1)
          rw [set_gets, show (d ++ [(x.1, x.2 + 1)]).length * 2 = (rl (X.has i) p).length * 2 by rw [hnl]; simp, hbg, he, ← this]
          congr 2
        · have hbq : ((x.1 : Int) + (x.2 : Int) == (p : Int)) = false := by simp; omega
          have er : rl (X.has i) (p + 1) = rl (X.has i) p ++ [(p, 1)] := by rw [rl_succ, if_neg (by rw [hh]; simp), hgl]; simp only [if_neg hend]
          obtain ⟨v2, h2, r, w, a1, a2, a3, a4, a5, a6⟩ := app rfl (fun _ _ => rfl) er
          rw [hnl] at hlv a1
          simp -implicitDefEqProofs (disch := (first | omega | fail)) only [go_sem, Nat.reduceAdd, Nat.reduceLT, Nat.reduceEqDiff, Nat.reduceLeDiff, ↓reduceIte, reduceCtorEq, t0, t1, t5, t6, x1g, x2, x6, hR1, hR2, hR3, v1g, w4, i0, i1, b1g, hb4, p0, p1, hnl, l0, l1, l2, l3, hRb, hb1, z1, z2, hbq, appendV_of ap_121, ↓a1, a5, a6]
          exact ⟨k - 1, by omega, a2, a3, p + 1, v2, by omega, by simp, rfl, a4⟩
  · obtain rfl : p = X.count i := by omega
    simp -implicitDefEqProofs (disch := (first | omega | fail)) only [go_sem, Nat.reduceAdd, Nat.reduceLT, Nat.reduceEqDiff, ↓reduceIte, reduceCtorEq, t0, t1, t5, t6, x1g, x2, x6, hR1, hR2, v1g, i0, i1, ↓w2]
    exact ⟨gn, hold, ho⟩
end Go.Proofs.Ythdkhbhicimpdaa
