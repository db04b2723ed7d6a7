/- goes: an account's runs gone over. -/
import Derived.Test.YthdkhbhicimpdaaE5
set_option linter.unusedVariables false
set_option maxRecDepth 100000
namespace Go.Proofs.Ythdkhbhicimpdaa
open Go Go.Vm
theorem rruns_bad {h : Heap} {R W S : Set'} {rx rd qb hb : Nat} {hk : Nat → Nat} {X : XS} (hr : RExt h S rx rd qb hb hk X) (hR : ∀ b, S b → R b) {a : Int} (ha : ¬ (0 ≤ a ∧ a < X.n)) :
    SF Try.prog 66 [.ptr (some (rx, 0)), .int .i64 a] h R W fun v h' => v = .slice none 0 0 true ∧ h' = h := by
  refine SF.go hm Try.func66 ir66_eq ?_
  simp -implicitDefEqProofs (disch := (first | omega | fail)) only [go_sem, Nat.reduceAdd, Nat.reduceSub, Nat.reduceLT, Nat.reduceMod, Nat.reduceDiv, ↓reduceIte, reduceCtorEq, ir66]
  refine GLoop.inv hm (fun k f g => f.mks = [] ∧ f.tm.n = 73 ∧ f.tm.get 0 = some (.ptr (some (rx, 0))) ∧ f.tm.get 1 = some (.int .i64 a) ∧ g = h ∧ f.tm.get 6 = some (.int .i64 0) ∧ f.tm.get 5 = some (.slice none 0 0 true)) 0 ?_ ?_
  · exact ⟨rfl, rfl, by simp -implicitDefEqProofs (disch := (first | omega | fail)) only [go_sem, ↓reduceIte], by simp -implicitDefEqProofs (disch := (first | omega | fail)) only [go_sem, Nat.reduceDiv, ↓reduceIte, reduceCtorEq], rfl, by simp -implicitDefEqProofs (disch := (first | omega | fail)) only [go_sem, Nat.reduceSub, Nat.reduceMod, Nat.reduceDiv, ↓reduceIte, reduceCtorEq], by simp -implicitDefEqProofs (disch := (first | omega | fail)) only [go_sem, Nat.reduceSub, Nat.reduceMod, Nat.reduceDiv, ↓reduceIte, reduceCtorEq]⟩
  rintro k ⟨⟨n', tr⟩, mks⟩ g ⟨hmk, hn', t0, t1, rfl, t6, t5⟩
  simp only [Tm.get_mk] at hmk hn' t0 t1 t5 t6
  subst hmk hn'
  simp -implicitDefEqProofs (disch := (first | omega | fail)) only [go_sem, Nat.reduceAdd, Nat.reduceLT, Nat.reduceEqDiff, ↓reduceIte, ir66_l0, t0, t1]
  refine GCall.of (rin_ok hr (fun b hb => .inr (hR b hb)) a) ?_
  rintro v h1 ⟨rfl, rfl⟩
  rw [decide_eq_false ha]
  simp -implicitDefEqProofs (disch := (first | omega | fail)) only [go_sem, Nat.reduceAdd, Nat.reduceLT, Nat.reduceEqDiff, ↓reduceIte, t5, undefV]
def rlA (X : XS) (a : Int) : List (Nat × Nat) := if 0 ≤ a ∧ a < X.n then rl (X.has a.toNat) (X.count a.toNat) else []
theorem rruns_uni {h : Heap} {R W S : Set'} {rx rd qb hb : Nat} {hk : Nat → Nat} {X : XS} (hr : RExt h S rx rd qb hb hk X) (hS : ∀ b, S b → b < h.n) (hR : ∀ b, S b → R b) (a : Int) :
    SF Try.prog 66 [.ptr (some (rx, 0)), .int .i64 a] h R W fun v h' => h.n ≤ h'.n ∧ (∀ b, b < h.n → h'.get b = h.get b) ∧ OwnS 2 h.n h' v (rlA X a).length (flatR (rlA X a)) 118 := by
  unfold rlA
  by_cases ha : 0 ≤ a ∧ a < X.n
  · rw [if_pos ha]
    obtain ⟨i, rfl⟩ := Int.eq_ofNat_of_zero_le ha.1
    exact rruns_ok hr hS hR (by omega)
  · rw [if_neg ha]
    refine (rruns_bad hr hR ha).mono ?_
    rintro v h' ⟨rfl, rfl⟩
    exact ⟨Nat.le_refl _, fun _ _ => rfl, OwnS.nil _ _ _ _⟩
theorem rlA_len (X : XS) (hfit : ∀ a, a < X.n → X.first a + X.count a ≤ 4096) (a : Int) : (rlA X a).length ≤ 4096 := by
  unfold rlA
  split
  · rename_i ha
    have := rl_len (X.has a.toNat) (X.count a.toNat)
    have := hfit a.toNat (by omega)
    omega
  · simp
theorem eg_118 : Try.prog.eqGuardType Try.prog.depth 118 = false := by kernel_rfl
theorem ru_eq (x y : Int) : eqD Try.prog 10 118 (.agg [.int .i64 x, .int .i64 y]) (.agg [.int .i64 x, .int .i64 y]) = some true := by
  have e : ∀ a a' b b' : Int, eqD Try.prog 10 118 (.agg [.int .i64 a, .int .i64 b]) (.agg [.int .i64 a', .int .i64 b']) = (match (a == a') with | true => (match (b == b') with | true => some true | false => some false) | false => some false) := fun _ _ _ _ => by kernel_rfl
  rw [e]
  simp
theorem turn_heap (g : Heap) (u : Nat) : ∃ gN, ((g.push (O.cells (Blk.of [V.int IntKind.i64 0]) 3)).set g.n (O.cells ((Blk.of [V.int IntKind.i64 0]).set 0 (V.int IntKind.i64 (u : Int))) 3)).set g.n (O.cells (((Blk.of [V.int IntKind.i64 0]).set 0 (V.int IntKind.i64 (u : Int))).set 0 (V.int IntKind.i64 ((u : Int) + 1))) 3) = gN ∧ gN.n = g.n + 1 ∧ (∃ c, gN.get g.n = some (.cells c 3) ∧ c.size = 1 ∧ c.ro = false ∧ c.get 0 = .int .i64 ((u + 1 : Nat) : Int)) ∧ ∀ b, b < g.n → gN.get b = g.get b :=
  ⟨_, rfl, by simp, ⟨_, w_set_eq (by simp) rfl _, rfl, rfl, by simp -implicitDefEqProofs (disch := (first | omega | fail)) only [go_sem]; simp⟩, fun b hb => by rw [w_set_ne (by simp) (by omega), w_set_ne (by simp) (by omega), w_push_ne (by omega)]⟩
set_option maxHeartbeats 4000000 in
theorem goes_dem {h : Heap} {R W S : Set'} {bx bd rx rd qb hb : Nat} {tb hk : Nat → Nat} {X : XS} (hx : ExtAt h bx bd tb X) (hr : RExt h S rx rd qb hb hk X) (hS : ∀ b, S b → b < h.n) (hRx : ∀ b, FootX bx tb X b → R b) (hRS : ∀ b, S b → R b) (a leave : Int) :
    SF ⟨Try.prog, true⟩ 36 [.agg [.ptr (some (bx, 0)), .ptr (some (bd, 0)), .ptr (some (rx, 0))], .int .i64 a, .int .i64 leave] h R W fun v h' => v = .bool true := by
  have hxl := hx.lt
  have hlen := rlA_len X hr.fit a
  obtain ⟨h0, e0, n0, b1, b2, b3, k0⟩ : ∃ h0, ((h.push (.cells (Blk.of [.ptr (some (bx, 0)), .ptr (some (bd, 0)), .ptr (some (rx, 0))]) 29)).push (.cells (Blk.of [V.int .i64 leave]) 3)).push (.cells (Blk.of [V.bool false]) 4) = h0 ∧ h0.n = h.n + 3 ∧ h0.get h.n = some (.cells (Blk.of [.ptr (some (bx, 0)), .ptr (some (bd, 0)), .ptr (some (rx, 0))]) 29) ∧ h0.get (h.n + 1) = some (.cells (Blk.of [V.int .i64 leave]) 3) ∧ h0.get (h.n + 1 + 1) = some (.cells (Blk.of [V.bool false]) 4) ∧ ∀ b, b < h.n → h0.get b = h.get b :=
    ⟨_, rfl, by simp, by simp -implicitDefEqProofs (disch := (first | omega | (simp -implicitDefEqProofs only [szs, ne_eq] <;> omega) | fail)) only [go_sem], by simp -implicitDefEqProofs (disch := (first | omega | (simp -implicitDefEqProofs only [szs, ne_eq] <;> omega) | fail)) only [go_sem], by simp -implicitDefEqProofs (disch := (first | omega | (simp -implicitDefEqProofs only [szs, ne_eq] <;> omega) | fail)) only [go_sem], fun b hb => by simp -implicitDefEqProofs (disch := (first | omega | (simp -implicitDefEqProofs only [szs, ne_eq] <;> omega) | fail)) only [go_sem]⟩
  have hRn : h.n ≤ h.n ∨ R h.n := .inl (Nat.le_refl _)
  refine SF.go hm Try.func36 ir36_eq ?_
  simp -implicitDefEqProofs (disch := (first | omega | (simp -implicitDefEqProofs only [szs, ne_eq] <;> omega) | fail)) only [go_sem, Nat.reduceAdd, Nat.reduceSub, Nat.reduceLT, Nat.reduceMod, Nat.reduceDiv, ↓reduceIte, reduceCtorEq, ir36, e0, b1]
  clear e0
  refine GCallD.of (R' := fun _ => False) (W' := fun _ => False) (runs_ok (bx := bx) (a := a)) ?_
  rintro v h1 ⟨rfl, hh⟩
  have n1 : h1.n = h0.n + 2 := by rw [hh]; simp
  have k1 : ∀ b, b < h0.n → h1.get b = h0.get b := fun b hb => by rw [hh, w_push_ne (by simp; omega), w_push_ne (by omega)]
  have p2 : h1.get h0.n = some (.cells (Blk.of [.ptr (some (bx, 0))]) 25) := by rw [hh, w_push_ne (by simp), w_push_eq rfl]
  have p3 : h1.get (h0.n + 1) = some (.cells (Blk.of [.int .i64 a]) 3) := by rw [hh, w_push_eq (by simp)]
  clear hh
  have b11 := (k1 h.n (by omega)).trans b1
  have kk1 : ∀ b, b < h.n → h1.get b = h.get b := fun b hb => by rw [k1 b (by omega), k0 b hb]
  simp -implicitDefEqProofs (disch := (first | omega | (simp -implicitDefEqProofs only [szs, ne_eq] <;> omega) | fail)) only [go_sem, Nat.reduceAdd, Nat.reduceSub, Nat.reduceLT, Nat.reduceMod, Nat.reduceDiv, ↓reduceIte, reduceCtorEq, b11]
  refine GCallD.of (R' := S) (W' := fun _ => False) (rruns_uni (hr.old kk1) (fun b hb => by have := hS b hb; omega) (fun b hb => hb) a) ?_
  rintro lv h2 ⟨n2, k2, ho⟩
  have hone := ho.lr.one
  have hcel := ho.lr.cells
  obtain ⟨g0, eg, ng, w1, kg⟩ : ∃ g0, (h2.push (O.cells (Blk.of [V.slice none 0 0 true]) 121)).set h2.n (O.cells ((Blk.of [V.slice none 0 0 true]).set 0 lv) 121) = g0 ∧ g0.n = h2.n + 1 ∧ g0.get h2.n = some (O.cells ((Blk.of [V.slice none 0 0 true]).set 0 lv) 121) ∧ ∀ b, b < h2.n → g0.get b = h2.get b := ⟨_, rfl, by simp, w_set_eq (by simp) rfl _, fun b hb => by rw [w_set_ne (by simp) (by omega), w_push_ne (by omega)]⟩
  obtain ⟨g4, e4, n4, b6, k4⟩ : ∃ g4, (g0.push (.cells (Blk.of [V.int .i64 0]) 3)).set g0.n (.cells ((Blk.of [V.int .i64 0]).set 0 (.int .i64 0)) 3) = g4 ∧ g4.n = g0.n + 1 ∧ g4.get g0.n = some (.cells ((Blk.of [V.int .i64 0]).set 0 (.int .i64 0)) 3) ∧ ∀ b, b < g0.n → g4.get b = g0.get b := ⟨_, rfl, by simp, w_set_eq (by simp) rfl _, fun b hb => by rw [w_set_ne (by simp) (by omega), w_push_ne (by omega)]⟩
  simp -implicitDefEqProofs (disch := (first | omega | (simp -implicitDefEqProofs only [szs, ne_eq] <;> omega) | fail)) only [go_sem, Nat.reduceAdd, Nat.reduceSub, Nat.reduceLT, Nat.reduceMod, Nat.reduceDiv, ↓reduceIte, reduceCtorEq, ↓hone, ↓hcel, eg, e4, undefV]
  refine ⟨?_, ?_, ?_⟩
  · simp only [List.not_mem_nil, or_false, false_or, and_false, false_implies, implies_true, not_false_eq_true, List.mem_cons, and_true, true_and]
    all_goals (try and_intros)
    all_goals (intros; omega)
  · and_intros
    all_goals (intros; first | exact .inr (hRS _ (by assumption)) | exact .inl (by omega) | exact False.elim ‹False›)
  have ho0 : OwnS 2 h1.n g0 lv (rlA X a).length (flatR (rlA X a)) 118 := ho.old kg
  have q1 : g0.get h0.n = _ := (kg h0.n (by omega)).trans ((k2 h0.n (by omega)).trans p2)
  have q1' : g0.get (h0.n + 1) = _ := (kg (h0.n + 1) (by omega)).trans ((k2 (h0.n + 1) (by omega)).trans p3)
  have q2 : g0.get (h.n + 1) = _ := (kg (h.n + 1) (by omega)).trans ((k2 (h.n + 1) (by omega)).trans ((k1 (h.n + 1) (by omega)).trans b2))
  have q3 : g0.get (h.n + 1 + 1) = _ := (kg (h.n + 1 + 1) (by omega)).trans ((k2 (h.n + 1 + 1) (by omega)).trans ((k1 (h.n + 1 + 1) (by omega)).trans b3))
  have hold : ∀ b, b < h.n → g0.get b = h.get b := fun b hb => by rw [kg b (by omega), k2 b (by omega)]; exact kk1 b hb
  refine ⟨.inl (by omega), ?_⟩
  refine GLoop.inv hm (fun k f g => (f.mks.Nodup ∧ ∀ m ∈ f.mks, g0.n ≤ m ∧ g.get m = some (.deferred true)) ∧ f.tm.n = 73 ∧ f.tm.get 5 = some (.ptr (some (h.n + 1, 0))) ∧ f.tm.get 6 = some (.ptr (some (h.n + 1 + 1, 0))) ∧ f.tm.get 7 = some (.func 68 [] [.ptr (some (h0.n, 0)), .ptr (some (h0.n + 1, 0))]) ∧ f.tm.get 8 = some (.ptr (some (h2.n, 0))) ∧ g0.n ≤ g.n ∧ (∀ b, b < g0.n → g.get b = g0.get b) ∧
    ∃ (u bt : Nat) (ct : Blk), u + k = 2 ∧ f.tm.get 9 = some (.ptr (some (bt, 0))) ∧ g0.n ≤ bt ∧ g.get bt = some (.cells ct 3) ∧ ct.size = 1 ∧ ct.ro = false ∧ ct.get 0 = .int .i64 u) 2 ?_ ?_
  · exact ⟨⟨List.nodup_nil, fun m hm => by cases hm⟩, rfl, by simp -implicitDefEqProofs (disch := (first | omega | (simp -implicitDefEqProofs only [szs, ne_eq] <;> omega) | fail)) only [go_sem, Nat.reduceSub, Nat.reduceMod, Nat.reduceDiv, ↓reduceIte, reduceCtorEq], by simp -implicitDefEqProofs (disch := (first | omega | (simp -implicitDefEqProofs only [szs, ne_eq] <;> omega) | fail)) only [go_sem, Nat.reduceSub, Nat.reduceMod, Nat.reduceDiv, ↓reduceIte, reduceCtorEq], by simp -implicitDefEqProofs (disch := (first | omega | (simp -implicitDefEqProofs only [szs, ne_eq] <;> omega) | fail)) only [go_sem, Nat.reduceMod, Nat.reduceDiv, ↓reduceIte, reduceCtorEq], by simp -implicitDefEqProofs (disch := (first | omega | (simp -implicitDefEqProofs only [szs, ne_eq] <;> omega) | fail)) only [go_sem, Nat.reduceSub, Nat.reduceMod, Nat.reduceDiv, ↓reduceIte, reduceCtorEq], by omega, k4, 0, g0.n, _, by omega, by simp -implicitDefEqProofs (disch := (first | omega | (simp -implicitDefEqProofs only [szs, ne_eq] <;> omega) | fail)) only [go_sem, Nat.reduceSub, Nat.reduceMod, Nat.reduceDiv, ↓reduceIte, reduceCtorEq], Nat.le_refl _, b6, rfl, rfl, rfl⟩
  rintro k ⟨⟨n', tr⟩, mks⟩ g ⟨⟨hmn, hmm⟩, hn', t5, t6, t7, t8, hgn, hgo, u, bt, ct, huk, t9, hbt1, hbt2, hbt3, hbt4, hbt5⟩
  simp only [Tm.get_mk] at hmn hmm hn' t5 t6 t7 t8 t9
  subst hn'
  have hllen := ho0.lr.lenV Try.underlying121
  have hxg : ExtAt g bx bd tb X := hx.old fun b hb => by rw [hgo b (by omega)]; exact hold b hb
  by_cases hu : u < 2
  · obtain ⟨gA, eA, nA, bA, kA⟩ : ∃ gA, (g.push (O.cells (Blk.of [V.int IntKind.i64 0]) 3)).set g.n (O.cells ((Blk.of [V.int IntKind.i64 0]).set 0 (V.int IntKind.i64 0)) 3) = gA ∧ gA.n = g.n + 1 ∧ gA.get g.n = some (O.cells ((Blk.of [V.int IntKind.i64 0]).set 0 (V.int IntKind.i64 0)) 3) ∧ ∀ b, b < g.n → gA.get b = g.get b := ⟨_, rfl, by simp, w_set_eq (by simp) rfl _, fun b hb => by rw [w_set_ne (by simp) (by omega), w_push_ne (by omega)]⟩
    have hRt : h.n ≤ bt ∨ R bt := .inl (by omega)
    have hu2 : (u : Int) < 2 := by omega
    simp -implicitDefEqProofs (disch := (first | omega | (simp -implicitDefEqProofs only [szs, ne_eq] <;> omega) | fail)) only [go_sem, Nat.reduceAdd, Nat.reduceLT, Nat.reduceEqDiff, ↓reduceIte, ir36_l0, t7, t9, hbt2, hbt3, hbt5, hRt, hu2, eA]
    refine ⟨.inl (by omega), ?_⟩
    have hgA : ∀ b, b < g0.n → gA.get b = g0.get b := fun b hb => by rw [kA b (by omega)]; exact hgo b hb
    have hml : ∀ m ∈ mks, m < g.n := fun m hm => Heap.lt_of_get (hmm m hm).2
    have hxA : ExtAt gA bx bd tb X := hxg.old kA
    have qA := (hgA h0.n (by omega)).trans q1
    have qA' := (hgA (h0.n + 1) (by omega)).trans q1'
    by_cases hav : 0 ≤ a ∧ a < X.n
    · obtain ⟨i, rfl⟩ := Int.eq_ofNat_of_zero_le hav.1
      have hi : i < X.n := by omega
      have hfit := hx.fit i hi
      obtain ⟨xs, exs⟩ : ∃ xs, xs = rl (X.has i) (X.count i) := ⟨_, rfl⟩
      have eA2 : rlA X (i : Int) = xs := by rw [exs, rlA, if_pos hav]; rfl
      rw [eA2] at ho0 hllen hlen
      refine range68 (P := 27) (X := 11) (cb := ir36_b0) (b2 := h0.n) (b3 := h0.n + 1) (bx := bx) (bd := bd) (tb := tb) (Xs := X) (a := i) (fun b => b = g.n)
        (fun p g' => gA.n ≤ g'.n ∧ (∀ b, b < g.n → g'.get b = g.get b) ∧ (p ≤ X.count i → Bdy (X.has i) p) ∧ ∃ c, g'.get g.n = some (.cells c 3) ∧ c.size = 1 ∧ c.ro = false ∧ c.get 0 = .int .i64 ((rl (X.has i) (min p (X.count i))).length : Nat))
        (fun e g' => e = .exit 2 ∧ gA.n ≤ g'.n ∧ (∀ b, b < g.n → g'.get b = g.get b) ∧ (∃ c, g'.get g.n = some (.cells c 3) ∧ c.size = 1 ∧ c.ro = false ∧ c.get 0 = .int .i64 leave) ∧ u = 0)
        (by simp -implicitDefEqProofs (disch := (first | omega | (simp -implicitDefEqProofs only [szs, ne_eq] <;> omega) | fail)) only [go_sem, ↓reduceIte]) hi hxA qA qA' (.inl (by omega)) (.inl (by omega)) (fun b hb => .inr (hRx b hb)) (fun b hb => .inl (by omega)) (fun b hb => by rcases hb with hb | rfl <;> exact .inl (by omega)) ⟨Nat.le_refl _, kA, fun _ => .inl rfl, ⟨_, bA, rfl, rfl, by rw [Nat.zero_min]; rfl⟩⟩
        (fun p g' g'' ⟨i1, i2, i3, ⟨c, i4, i5⟩⟩ j1 j2 => ⟨by omega, fun b hb => by rw [j2 b (by omega) (by omega) (by omega)]; exact i2 b hb, i3, ⟨c, by rw [j2 _ (by omega) (by omega) (by omega)]; exact i4, i5⟩⟩)
        (fun e g' g'' ⟨i1, i2, i3, ⟨c, i4, i5⟩, i6⟩ j1 j2 => ⟨i1, by omega, fun b hb => by rw [j2 b (by omega) (by omega) (by omega)]; exact i3 b hb, ⟨c, by rw [j2 _ (by omega) (by omega) (by omega)]; exact i4, i5⟩, i6⟩)
        (fun p g' ⟨i1, i2, _, _⟩ => ⟨by omega, fun b hb => by have := hxl b hb; rw [i2 b (by omega), kA b (by omega)]⟩)
        (fun p g' hp h0 ⟨i1, i2, i3, ⟨c, i4, i5, i6, i7⟩⟩ => ⟨i1, i2, fun _ => (rl_skip h0).2, ⟨c, i4, i5, i6, by rw [i7, Nat.min_eq_left (by omega), Nat.min_eq_left (by omega), (rl_skip h0).1]⟩⟩)
        ir36_a0_eq ir36_b0_eq (by simp) (by show 27 < 73; omega) (by show 11 < 73; omega) ?_ ?_ ?_
      · rintro R' W' Q1 p c gg sb x rr r1' r2 hk1 hpk hall hmax ⟨i1, i2, i3, ⟨cn, v1, v2, v3, v4⟩⟩ ng2 hxx hdm hdl s0 s1 q0 q1 hnorm hex
        rw [Nat.min_eq_left (by omega)] at v4
        obtain ⟨hat, hlen2, hb2⟩ := rl_at (i3 (by omega)) hk1 hpk hall hmax
        rw [← exs] at hat
        obtain ⟨np, enp⟩ : ∃ np, np = (rl (X.has i) p).length := ⟨_, rfl⟩
        rw [← enp] at hat v4 hlen2
        have hnp : np < xs.length := (List.getElem?_eq_some_iff.1 hat).1
        have h2a : ∀ b, b < g0.n → gg.get b = g0.get b := fun b hb => by rw [i2 b (by omega)]; exact hgo b hb
        have zw := (h2a h2.n (by omega)).trans w1
        have zl := (h2a (h.n + 1) (by omega)).trans q2
        have zt := (i2 bt (Heap.lt_of_get hbt2)).trans hbt2
        obtain ⟨y1, y2⟩ := flatR_at hat
        obtain ⟨bl, ol, capl, exl, cl, cel, elv, hbl0, hbl, hls, hlg⟩ := ho0.lr.get (by omega)
        have z1 := (hlg (np * 2) (by omega)).trans y1
        have z2 := (hlg (np * 2 + 1) (by omega)).trans y2
        have z2' : cl.get (ol + np * 2 + 1) = .int .i64 c := by rw [show ol + np * 2 + 1 = ol + (np * 2 + 1) by omega]; exact z2
        have hbl' := (h2a bl (Heap.lt_of_get hbl)).trans hbl
        have rx := rr x (.inl (by omega))
        have rn := rr g.n (.inl (by omega))
        have rw' := rr h2.n (.inl (by omega))
        have rl' := rr bl (.inl (by have : h1.n ≤ bl := hbl0; omega))
        have r1 := rr (h.n + 1) (.inl (by omega))
        have rt := rr bt (.inl (by omega))
        have wn := r2 g.n rfl
        have heq := ru_eq (p : Int) (c : Int)
        have hln := Heap.lt_of_get v1
        have c0 : (0 : Int) ≤ (np : Int) := by omega
        have c1 : (np : Int) < (xs.length : Nat) := by omega
        have c2 : ¬ (np : Int) ≥ (xs.length : Nat) := by omega
        have zs : ol + np * 2 + 2 ≤ cl.size := by omega
        have hbtl := Heap.lt_of_get hbt2
        have hKeep : ∀ y : O, ∀ b, b < g.n → (gg.set g.n y).get b = g.get b := fun y b hb => by rw [w_set_ne hln (by omega)]; exact i2 b hb
        have hOth : ∀ y : O, ∀ b, b ≠ g.n → (gg.set g.n y).get b = gg.get b := fun y b hb => by rw [w_set_ne hln hb]
        subst elv
        have hu01 : u = 0 ∨ u = 1 := by omega
        have hfin : ∀ (y : Int), y = (np : Int) + 1 → ∃ c', (gg.set g.n (.cells (cn.set 0 (.int .i64 y)) 3)).get g.n = some (.cells c' 3) ∧ c'.size = 1 ∧ c'.ro = false ∧ c'.get 0 = .int .i64 ((rl (X.has i) (min (p + c + 1) (X.count i))).length : Nat) := fun y hy => ⟨_, w_set_eq hln rfl _, by rw [Blk.size_set]; exact v2, by rw [Blk.ro_set]; exact v3, by rw [w_bset_eq rfl, hlen2, hy]; simp⟩
        rcases hu01 with rfl | rfl
        · by_cases hle : (np : Int) + 1 = leave
          · have hb : ((np : Int) + 1 == leave) = true := by simp [hle]
            simp -implicitDefEqProofs (disch := (first | omega | (simp -implicitDefEqProofs only [szs, ne_eq] <;> omega) | fail)) only [go_sem, Nat.reduceAdd, Nat.reduceLT, Nat.reduceEqDiff, ↓reduceIte, ir36_b0, t5, t8, t9, v1, v2, v3, v4, rn, wn, zw, rw', ↓hllen, c0, c1, c2, s0, s1, q0, q1, rx, hbl', z1, z2', rl', ↓eg_118, heq, undefV, zt, hbt3, hbt5, rt, zl, r1, hb]
            exact hex (.exit 2) _ _ (by simp) (by rw [Heap.n_set]; omega) (hOth _ _ (by omega)) (hOth _ _ (by omega)) ⟨rfl, by rw [Heap.n_set]; omega, hKeep _, ⟨_, w_set_eq hln rfl _, by rw [Blk.size_set]; exact v2, by rw [Blk.ro_set]; exact v3, by rw [w_bset_eq rfl, hle]⟩, rfl⟩
          · have hb : ((np : Int) + 1 == leave) = false := by simpa using hle
            simp -implicitDefEqProofs (disch := (first | omega | (simp -implicitDefEqProofs only [szs, ne_eq] <;> omega) | fail)) only [go_sem, Nat.reduceAdd, Nat.reduceLT, Nat.reduceEqDiff, ↓reduceIte, ir36_b0, t5, t8, t9, v1, v2, v3, v4, rn, wn, zw, rw', ↓hllen, c0, c1, c2, s0, s1, q0, q1, rx, hbl', z1, z2', rl', ↓eg_118, heq, undefV, zt, hbt3, hbt5, rt, zl, r1, hb]
            exact hnorm _ _ (by rw [Heap.n_set]; omega) (hOth _ _ (by omega)) (hOth _ _ (by omega)) ⟨by rw [Heap.n_set]; omega, hKeep _, hb2, hfin _ rfl⟩
        · simp -implicitDefEqProofs (disch := (first | omega | (simp -implicitDefEqProofs only [szs, ne_eq] <;> omega) | fail)) only [go_sem, Nat.reduceAdd, Nat.reduceLT, Nat.reduceEqDiff, ↓reduceIte, ir36_b0, t8, t9, v1, v2, v3, v4, rn, wn, zw, rw', ↓hllen, c0, c1, c2, s0, s1, q0, q1, rx, hbl', z1, z2', rl', ↓eg_118, heq, undefV, zt, hbt3, hbt5, rt]
          exact hnorm _ _ (by rw [Heap.n_set]; omega) (hOth _ _ (by omega)) (hOth _ _ (by omega)) ⟨by rw [Heap.n_set]; omega, hKeep _, hb2, hfin _ rfl⟩
      · rintro gC p hp ⟨i1, i2, _, ⟨cn, v1, v2, v3, v4⟩⟩ gn hd
        rw [Nat.min_eq_right hp, ← exs] at v4
        have h2a : ∀ b, b < g0.n → gC.get b = g0.get b := fun b hb => by rw [i2 b (by omega)]; exact hgo b hb
        have zw := (h2a h2.n (by omega)).trans w1
        have zl := (h2a (h.n + 1) (by omega)).trans q2
        have zt := (i2 bt (Heap.lt_of_get hbt2)).trans hbt2
        have rt : h.n ≤ bt ∨ R bt := .inl (by omega)
        have rn : h.n ≤ g.n ∨ R g.n := .inl (by omega)
        have rw' : h.n ≤ h2.n ∨ R h2.n := .inl (by omega)
        have r1 : h.n ≤ h.n + 1 ∨ R (h.n + 1) := .inl (by omega)
        have hne : ∀ x : Int, (x != x) = false := fun x => by simp
        obtain ⟨gN, eN, nN, ⟨cN, bN, bN1, bN2, bN3⟩, kN⟩ := turn_heap gC u
        have fin2 : ((gA.n :: mks).Nodup ∧ ∀ m, m ∈ gA.n :: mks → g0.n ≤ m ∧ gN.get m = some (O.deferred true)) := ⟨List.nodup_cons.2 ⟨fun hm => by have := hml _ hm; omega, hmn⟩, fun m hm => by
          rcases List.mem_cons.1 hm with rfl | hm
          · exact ⟨by omega, by rw [kN _ (by omega)]; exact hd⟩
          · have := hml m hm
            exact ⟨(hmm m hm).1, by rw [kN m (by omega), i2 m (by omega)]; exact (hmm m hm).2⟩⟩
        have fin3 : ∀ b, b < g0.n → gN.get b = g0.get b := fun b hb => by rw [kN b (by omega)]; exact h2a b hb
        have hu01 : u = 0 ∨ u = 1 := by omega
        rcases hu01 with rfl | rfl
        · simp -implicitDefEqProofs (disch := (first | omega | (simp -implicitDefEqProofs only [szs, ne_eq] <;> omega) | fail)) only [go_sem, Nat.reduceAdd, Nat.reduceLT, Nat.reduceEqDiff, ↓reduceIte, t5, t6, t7, t8, t9, v1, v2, v4, rn, zw, rw', ↓hllen, zt, hbt3, hbt5, rt, undefV, eN, hne]
          repeat (refine ⟨Or.inl (by omega), ?_⟩)
          exact ⟨k - 1, by omega, fin2, by omega, fin3, 1, gC.n, cN, by omega, rfl, by omega, bN, bN1, bN2, bN3⟩
        · simp -implicitDefEqProofs (disch := (first | omega | (simp -implicitDefEqProofs only [szs, ne_eq] <;> omega) | fail)) only [go_sem, Nat.reduceAdd, Nat.reduceLT, Nat.reduceEqDiff, ↓reduceIte, t5, t6, t7, t8, t9, v1, v2, v4, rn, zw, rw', ↓hllen, zt, hbt3, hbt5, rt, undefV, eN, hne]
          repeat (refine ⟨Or.inl (by omega), ?_⟩)
          exact ⟨k - 1, by omega, fin2, by omega, fin3, 2, gC.n, cN, by omega, rfl, by omega, bN, bN1, bN2, bN3⟩
      · rintro e gC ⟨rfl, i1, i2, ⟨cn, v1, v2, v3, v4⟩, rfl⟩ _ gn hd
        have h2a : ∀ b, b < g0.n → gC.get b = g0.get b := fun b hb => by rw [i2 b (by omega)]; exact hgo b hb
        have zw := (h2a h2.n (by omega)).trans w1
        have zl := (h2a (h.n + 1) (by omega)).trans q2
        have zt := (i2 bt (Heap.lt_of_get hbt2)).trans hbt2
        have rt : h.n ≤ bt ∨ R bt := .inl (by omega)
        have rn : h.n ≤ g.n ∨ R g.n := .inl (by omega)
        have rw' : h.n ≤ h2.n ∨ R h2.n := .inl (by omega)
        have r1 : h.n ≤ h.n + 1 ∨ R (h.n + 1) := .inl (by omega)
        have hne : ∀ x : Int, (x != x) = false := fun x => by simp
        obtain ⟨gN, eN, nN, ⟨cN, bN, bN1, bN2, bN3⟩, kN⟩ := turn_heap gC 0
        have fin2 : ((gA.n :: mks).Nodup ∧ ∀ m, m ∈ gA.n :: mks → g0.n ≤ m ∧ gN.get m = some (O.deferred true)) := ⟨List.nodup_cons.2 ⟨fun hm => by have := hml _ hm; omega, hmn⟩, fun m hm => by
          rcases List.mem_cons.1 hm with rfl | hm
          · exact ⟨by omega, by rw [kN _ (by omega)]; exact hd⟩
          · have := hml m hm
            exact ⟨(hmm m hm).1, by rw [kN m (by omega), i2 m (by omega)]; exact (hmm m hm).2⟩⟩
        have fin3 : ∀ b, b < g0.n → gN.get b = g0.get b := fun b hb => by rw [kN b (by omega)]; exact h2a b hb
        by_cases hll : leave = (xs.length : Nat)
        · have hb : (leave != ((xs.length : Nat) : Int)) = false := by simp [hll]
          simp -implicitDefEqProofs (disch := (first | omega | (simp -implicitDefEqProofs only [szs, ne_eq] <;> omega) | fail)) only [go_sem, Nat.reduceAdd, Nat.reduceLT, Nat.reduceEqDiff, ↓reduceIte, t5, t6, t7, t8, t9, v1, v2, v4, rn, zw, rw', ↓hllen, zt, hbt3, hbt5, rt, undefV, eN, hb]
          repeat (refine ⟨Or.inl (by omega), ?_⟩)
          exact ⟨k - 1, by omega, fin2, by omega, fin3, 1, gC.n, cN, by omega, rfl, by omega, bN, bN1, bN2, bN3⟩
        · have hb : (leave != ((xs.length : Nat) : Int)) = true := by simpa using hll
          simp -implicitDefEqProofs (disch := (first | omega | (simp -implicitDefEqProofs only [szs, ne_eq] <;> omega) | fail)) only [go_sem, Nat.reduceAdd, Nat.reduceLT, Nat.reduceEqDiff, ↓reduceIte, t5, t6, t7, t8, t9, v1, v2, v4, rn, zw, rw', ↓hllen, zt, hbt3, hbt5, rt, undefV, eN, hne, hb, zl]
          repeat (refine ⟨Or.inl (by omega), ?_⟩)
          exact ⟨k - 1, by omega, fin2, by omega, fin3, 1, gC.n, cN, by omega, rfl, by omega, bN, bN1, bN2, bN3⟩
    · have eA2 : rlA X a = [] := by rw [rlA, if_neg hav]
      rw [eA2, List.length_nil] at hllen
      refine range68x (b2 := h0.n) (b3 := h0.n + 1) (by simp -implicitDefEqProofs (disch := (first | omega | (simp -implicitDefEqProofs only [szs, ne_eq] <;> omega) | fail)) only [go_sem, ↓reduceIte]) hav hxA qA qA' (.inl (by omega)) (.inl (by omega)) (fun b hb => .inr (hRx b hb)) (fun b hb => .inl (by omega)) ?_
      intro gC gn hd gk
      have i2 : ∀ b, b < g.n → gC.get b = g.get b := fun b hb => by rw [gk b (by omega), kA b hb]
      have v1 := (gk g.n (by omega)).trans bA
      have h2a : ∀ b, b < g0.n → gC.get b = g0.get b := fun b hb => by rw [i2 b (by omega)]; exact hgo b hb
      have zw := (h2a h2.n (by omega)).trans w1
      have zl := (h2a (h.n + 1) (by omega)).trans q2
      have zt := (i2 bt (Heap.lt_of_get hbt2)).trans hbt2
      have rt : h.n ≤ bt ∨ R bt := .inl (by omega)
      have rn : h.n ≤ g.n ∨ R g.n := .inl (by omega)
      have rw' : h.n ≤ h2.n ∨ R h2.n := .inl (by omega)
      have r1 : h.n ≤ h.n + 1 ∨ R (h.n + 1) := .inl (by omega)
      have hne : ∀ x : Int, (x != x) = false := fun x => by simp
      obtain ⟨gN, eN, nN, ⟨cN, bN, bN1, bN2, bN3⟩, kN⟩ := turn_heap gC u
      have fin2 : ((gA.n :: mks).Nodup ∧ ∀ m, m ∈ gA.n :: mks → g0.n ≤ m ∧ gN.get m = some (O.deferred true)) := ⟨List.nodup_cons.2 ⟨fun hm => by have := hml _ hm; omega, hmn⟩, fun m hm => by
        rcases List.mem_cons.1 hm with rfl | hm
        · exact ⟨by omega, by rw [kN _ (by omega)]; exact hd⟩
        · have := hml m hm
          exact ⟨(hmm m hm).1, by rw [kN m (by omega), i2 m (by omega)]; exact (hmm m hm).2⟩⟩
      have fin3 : ∀ b, b < g0.n → gN.get b = g0.get b := fun b hb => by rw [kN b (by omega)]; exact h2a b hb
      have hu01 : u = 0 ∨ u = 1 := by omega
      rcases hu01 with rfl | rfl
      · simp -implicitDefEqProofs (disch := (first | omega | (simp -implicitDefEqProofs only [szs, ne_eq] <;> omega) | fail)) only [go_sem, Nat.reduceAdd, Nat.reduceLT, Nat.reduceEqDiff, ↓reduceIte, t5, t6, t7, t8, t9, v1, rn, zw, rw', ↓hllen, zt, hbt3, hbt5, rt, undefV, eN]
        repeat (refine ⟨Or.inl (by omega), ?_⟩)
        exact ⟨k - 1, by omega, fin2, by omega, fin3, 1, gC.n, cN, by omega, rfl, by omega, bN, bN1, bN2, bN3⟩
      · simp -implicitDefEqProofs (disch := (first | omega | (simp -implicitDefEqProofs only [szs, ne_eq] <;> omega) | fail)) only [go_sem, Nat.reduceAdd, Nat.reduceLT, Nat.reduceEqDiff, ↓reduceIte, t5, t6, t7, t8, t9, v1, rn, zw, rw', ↓hllen, zt, hbt3, hbt5, rt, undefV, eN]
        repeat (refine ⟨Or.inl (by omega), ?_⟩)
        exact ⟨k - 1, by omega, fin2, by omega, fin3, 2, gC.n, cN, by omega, rfl, by omega, bN, bN1, bN2, bN3⟩
  · obtain rfl : u = 2 := by omega
    have p2' := (hgo (h.n + 1 + 1) (by omega)).trans q3
    have hlp := Heap.lt_of_get p2'
    have rt : h.n ≤ bt ∨ R bt := .inl (by omega)
    have r2 : h.n ≤ h.n + 1 + 1 ∨ R (h.n + 1 + 1) := .inl (by omega)
    simp -implicitDefEqProofs (disch := (first | omega | (simp -implicitDefEqProofs only [szs, ne_eq] <;> omega) | fail)) only [go_sem, Nat.reduceAdd, Nat.reduceLT, Nat.reduceEqDiff, ↓reduceIte, ir36_l0, t6, t9, hbt2, hbt3, hbt5, rt, p2']
    refine ⟨.inl (by omega), fin_all hmn (fun m hm => ⟨by rw [w_set_ne hlp (by have := (hmm m hm).1; omega)]; exact (hmm m hm).2, .inl (by have := (hmm m hm).1; omega)⟩) fun h' en ek => ?_⟩
    have p5 : h'.get (h.n + 1 + 1) = _ := (ek (h.n + 1 + 1) (fun hm => by have := (hmm _ hm).1; omega)).trans (w_set_eq hlp rfl _)
    rw [fin_ret]
    simp -implicitDefEqProofs (disch := (first | omega | (simp -implicitDefEqProofs only [szs, ne_eq] <;> omega) | fail)) only [go_sem, Nat.reduceEqDiff, ↓reduceIte, t6, p5, r2]
theorem goes_ok {h : Heap} {S : Set'} {bx bd rx rd qb hb : Nat} {tb hk : Nat → Nat} {X : XS} (hx : ExtAt h bx bd tb X) (hr : RExt h S rx rd qb hb hk X) (hS : ∀ b, S b → b < h.n) (a leave : Int) :
    SF Try.prog 36 [.agg [.ptr (some (bx, 0)), .ptr (some (bd, 0)), .ptr (some (rx, 0))], .int .i64 a, .int .i64 leave] h (fun b => FootX bx tb X b ∨ S b) (fun _ => False) fun v h' => v = .bool true ∧ h' = h :=
  SF.of_dem_val (fun b hb => hb.elim (hx.lt b) (hS b)) trivial fun g hg hgo => goes_dem (hx.old hgo) (hr.old hgo) (fun b hb => Nat.lt_of_lt_of_le (hS b hb) hg) (fun b hb => .inl hb) (fun b hb => .inr hb) a leave
end Go.Proofs.Ythdkhbhicimpdaa
