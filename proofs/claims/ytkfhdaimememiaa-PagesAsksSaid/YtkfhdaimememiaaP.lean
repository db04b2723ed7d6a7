/- Tables of pages: one step. -/
import Derived.Test.YtkfhdaimememiaaO
set_option linter.unusedVariables false
set_option linter.unusedSimpArgs false
set_option linter.unusedSimpArgs false
set_option maxRecDepth 100000
set_option linter.unusedVariables false
set_option linter.unusedSimpArgs false
namespace Go.Proofs.Ytkfhdaimememiaa
open Go Go.Vm
structure St where
  k : Int
  a : Int
  b : Int
  c : Int
  d : Int
  ad : Int
def St.l (x : St) : List V := [.int .i64 x.k, .int .i64 x.a, .int .i64 x.b, .int .i64 x.c, .int .i64 x.d, .int .u32 x.ad]
/-- What one step leaves. -/
def stT (T : Tb) (x : St) : Tb :=
  if x.k = 1 then putT T x.a x.b x.c x.d
  else if x.k = 2 then clrT T x.a x.b
  else if x.k = 3 then rgtT T x.a x.b x.d
  else if x.k = 4 then askT T x.a x.ad x.d
  else if x.k = 5 then clnT T x.a x.b
  else if x.k = 6 then shrT T x.a x.b
  else if x.k = 7 then drT T x.a
  else T
theorem WT.upd {T : Tb} (w : WT T) (s p : Nat) {c : Ce} (hc : ∀ e, c = some e → okF e.f ∧ 0 ≤ e.r ∧ e.r ≤ 7) : WT (T.upd s p c) := fun a b e h => by
  unfold Tb.upd at h
  split at h
  · exact hc e h
  · exact w a b e h
theorem WT.st {T : Tb} (w : WT T) (x : St) : WT (stT T x) := by
  unfold stT
  split
  · unfold putT
    split
    · rename_i h
      refine w.upd _ _ fun e he => ?_
      cases he
      unfold putE at h
      by_cases h1 : okAt x.a x.b x.d
      · by_cases h2 : okF x.c
        · exact ⟨h2, h1.2⟩
        · rw [if_neg (fun h => h h1), if_pos h2] at h; cases h
      · rw [if_pos h1] at h; cases h
    · exact w
  split
  · unfold clrT
    split
    · exact w.upd _ _ fun e he => by cases he
    · exact w
  split
  · unfold rgtT
    split
    · rename_i h
      obtain ⟨hok, ⟨e0, hT⟩, _⟩ := set_some (tb := 0) h
      refine w.upd _ _ fun e he => ?_
      rw [hT] at he
      cases he
      exact ⟨(w _ _ _ hT).1, hok.2⟩
    · exact w
  split
  · unfold askT
    split
    · refine w.upd _ _ fun e he => ?_
      cases hg : getC T x.a (x.ad / 256) with
      | none => rw [hg] at he; cases he
      | some e0 =>
        rw [hg] at he
        cases he
        unfold getC at hg
        split at hg
        · have := w _ _ _ hg; exact this
        · cases hg
    · exact w
  split
  · unfold clnT
    split
    · refine w.upd _ _ fun e he => ?_
      cases hT : T x.a.toNat x.b.toNat with
      | none => rw [hT] at he; cases he
      | some e0 => rw [hT] at he; cases he; have := w _ _ _ hT; exact this
    · exact w
  split
  · unfold shrT
    split
    · intro a b e he
      unfold shU at he
      split at he
      · cases hT : T x.a.toNat b with
        | none => rw [hT] at he; cases he
        | some e0 => rw [hT] at he; cases he; have := w _ _ _ hT; exact this
      · exact w _ _ _ he
    · exact w
  split
  · unfold drT
    split
    · intro a b e he
      unfold clU at he
      split at he
      · cases he
      · exact w _ _ _ he
    · exact w
  · exact w
theorem num_ok {h : Heap} {R W : Set'} (x : Int) : SF Try.prog 18 [.int .i64 x] h R W fun v h' => v = .int .i64 x ∧ h' = h := by
  refine SF.go hm Try.func18 ir18_eq ?_
  simp -implicitDefEqProofs (disch := (first | omega | (simp -implicitDefEqProofs only [szs, ne_eq] <;> omega) | fail)) only [go_sem, Nat.reduceAdd, Nat.reduceSub, Nat.reduceMul, Nat.reduceLT, Nat.reduceMod, Nat.reduceDiv, Nat.reduceEqDiff, Nat.reduceBEq, Nat.reduceLeDiff, ↓reduceIte, reduceCtorEq, Int.reduceAdd, Int.reduceSub, Int.reduceLT, Int.reduceLE, Int.reduceBEq, Int.reduceEq, Int.reduceToNat, ir18]
/-- What a step answers. -/
def DoQ (h : Heap) (tb r rd : Nat) (T T2 : Tb) (x : St) (v : V) (h' : Heap) : Prop :=
  ∃ tb' r' ok, v = .tuple [.ptr (some (tb', 0)), .ptr (some (rd, 0)), .bool ok] ∧ TabAt h' tb' r' (stT T x) ∧ RefP h' rd (stT T2 x) ∧ (T = T2 → ok = true) ∧ (tb' = tb ∧ r' = r ∨ x.k = 8 ∧ h.n ≤ tb' ∧ h.n ≤ r')
theorem RefP.ne {h : Heap} {tb r rd : Nat} {T T2 : Tb} (ht : TabAt h tb r T) (hr : RefP h rd T2) : rd ≠ tb ∧ rd ≠ r := by
  obtain ⟨c, t1, _⟩ := hr
  obtain ⟨⟨c', t1', _⟩, es, ck, m1, _⟩ := ht
  refine ⟨fun e => ?_, fun e => ?_⟩
  · rw [e, t1'] at t1; cases t1
  · rw [e, m1] at t1; cases t1
set_option maxHeartbeats 4000000 in
theorem do_1 {dm : Bool} {h : Heap} {R W : Set'} {tb r rd : Nat} {T T2 : Tb} (ht : TabAt h tb r T) (hr : RefP h rd T2) (hR : ∀ b, R b) (hW : ∀ b, b = tb ∨ b = r ∨ b = rd → W b) (x : St) (hk : x.k = 1) :
    SF ⟨Try.prog, dm⟩ 11 [.ptr (some (tb, 0)), .ptr (some (rd, 0)), .agg x.l] h R W (DoQ h tb r rd T T2 x) := by
  have hlt := ht.lt
  have hlr := hr.lt
  have hne := RefP.ne ht hr
  obtain ⟨k, a, b, c, d, ad⟩ := x
  simp only at hk
  subst hk
  refine SF.go hm Try.func11 ir11_eq ?_
  obtain ⟨h0, e0, n0, b0, k0⟩ : ∃ h0, h.push (.cells (Blk.of [.int .i64 1, .int .i64 a, .int .i64 b, .int .i64 c, .int .i64 d, .int .u32 ad]) 30) = h0 ∧ h0.n = h.n + 1 ∧ h0.get h.n = some (.cells (Blk.of [.int .i64 1, .int .i64 a, .int .i64 b, .int .i64 c, .int .i64 d, .int .u32 ad]) 30) ∧ ∀ b, b < h.n → h0.get b = h.get b := ⟨_, rfl, by simp, w_push_eq rfl _, fun b hb => w_push_ne (by omega) _⟩
  have ht0 := ht.old k0
  have hr0 := hr.old k0
  have hRh := hR h.n
  simp -implicitDefEqProofs (disch := (first | omega | (simp -implicitDefEqProofs only [szs, ne_eq] <;> omega) | fail)) only [go_sem, Nat.reduceAdd, Nat.reduceSub, Nat.reduceMul, Nat.reduceLT, Nat.reduceMod, Nat.reduceDiv, Nat.reduceEqDiff, Nat.reduceBEq, Nat.reduceLeDiff, ↓reduceIte, reduceCtorEq, Int.reduceAdd, Int.reduceSub, Int.reduceLT, Int.reduceLE, Int.reduceBEq, Int.reduceEq, Int.reduceToNat, ir11, St.l, e0, b0, undefV]
  refine GCallD.of (R' := fun b => b = tb ∨ b = r) (W' := fun b => b = tb ∨ b = r) ((put_ok ht0 (fun _ h => h) (fun _ h => h) a b c d).kept) ?_
  rintro v h1 ⟨⟨rfl, ht1⟩, vf1⟩
  have n1 := vf1.n
  have hr1 : RefP h1 rd T2 := hr0.same (vf1.get _ (by omega) (by omega))
  simp -implicitDefEqProofs (disch := (first | omega | (simp -implicitDefEqProofs only [szs, ne_eq] <;> omega) | fail)) only [go_sem, Nat.reduceAdd, Nat.reduceSub, Nat.reduceMul, Nat.reduceLT, Nat.reduceMod, Nat.reduceDiv, Nat.reduceEqDiff, Nat.reduceBEq, Nat.reduceLeDiff, ↓reduceIte, reduceCtorEq, Int.reduceAdd, Int.reduceSub, Int.reduceLT, Int.reduceLE, Int.reduceBEq, Int.reduceEq, Int.reduceToNat]
  refine GCallD.of (R' := fun _ => False) (W' := fun _ => False) (num_ok _) ?_
  rintro v h2 ⟨rfl, rfl⟩
  have b1 := (vf1.get h.n (by omega) (by omega)).trans b0
  simp -implicitDefEqProofs (disch := (first | omega | (simp -implicitDefEqProofs only [szs, ne_eq] <;> omega) | fail)) only [go_sem, Nat.reduceAdd, Nat.reduceSub, Nat.reduceMul, Nat.reduceLT, Nat.reduceMod, Nat.reduceDiv, Nat.reduceEqDiff, Nat.reduceBEq, Nat.reduceLeDiff, ↓reduceIte, reduceCtorEq, Int.reduceAdd, Int.reduceSub, Int.reduceLT, Int.reduceLE, Int.reduceBEq, Int.reduceEq, Int.reduceToNat, b1]
  refine GCallD.of (R' := fun b => b = rd) (W' := fun b => b = rd) ((rput_ok (R := fun b => b = rd) (W := fun b => b = rd) hr1 rfl rfl a b c d).kept) ?_
  rintro v h3 ⟨⟨rfl, hr3⟩, vf3⟩
  have ht3 := ht1.same fun b hb => vf3.get b (by have := ht1.lt; omega) (by omega)
  simp -implicitDefEqProofs (disch := (first | omega | (simp -implicitDefEqProofs only [szs, ne_eq] <;> omega) | fail)) only [go_sem, Nat.reduceAdd, Nat.reduceSub, Nat.reduceMul, Nat.reduceLT, Nat.reduceMod, Nat.reduceDiv, Nat.reduceEqDiff, Nat.reduceBEq, Nat.reduceLeDiff, ↓reduceIte, reduceCtorEq, Int.reduceAdd, Int.reduceSub, Int.reduceLT, Int.reduceLE, Int.reduceBEq, Int.reduceEq, Int.reduceToNat]
  refine ⟨?_, ?_, ?_⟩
  · simp only [List.not_mem_nil, or_false, false_or, and_false, false_and, false_implies, implies_true, not_false_eq_true, List.mem_singleton, List.mem_cons, and_true, true_and]
    all_goals (try and_intros)
    all_goals (intros; omega)
  · simp only [List.not_mem_nil, or_false, false_or, and_false, false_and, false_implies, implies_true, not_false_eq_true, List.mem_singleton, List.mem_cons, and_true, true_and]
    all_goals (try and_intros)
    all_goals (intros; first | exact .inr (hR _) | exact .inr (hW _ (by omega)) | exact .inl (by omega))
  · exact ⟨tb, r, _, rfl, ht3, hr3, fun e => by subst e; simp, .inl ⟨rfl, rfl⟩⟩
set_option maxHeartbeats 4000000 in
theorem do_3 {dm : Bool} {h : Heap} {R W : Set'} {tb r rd : Nat} {T T2 : Tb} (ht : TabAt h tb r T) (hr : RefP h rd T2) (hR : ∀ b, R b) (hW : ∀ b, b = tb ∨ b = r ∨ b = rd → W b) (x : St) (hk : x.k = 3) :
    SF ⟨Try.prog, dm⟩ 11 [.ptr (some (tb, 0)), .ptr (some (rd, 0)), .agg x.l] h R W (DoQ h tb r rd T T2 x) := by
  have hlt := ht.lt
  have hlr := hr.lt
  have hne := RefP.ne ht hr
  obtain ⟨k, a, b, c, d, ad⟩ := x
  simp only at hk
  subst hk
  refine SF.go hm Try.func11 ir11_eq ?_
  obtain ⟨h0, e0, n0, b0, k0⟩ : ∃ h0, h.push (.cells (Blk.of [.int .i64 3, .int .i64 a, .int .i64 b, .int .i64 c, .int .i64 d, .int .u32 ad]) 30) = h0 ∧ h0.n = h.n + 1 ∧ h0.get h.n = some (.cells (Blk.of [.int .i64 3, .int .i64 a, .int .i64 b, .int .i64 c, .int .i64 d, .int .u32 ad]) 30) ∧ ∀ b, b < h.n → h0.get b = h.get b := ⟨_, rfl, by simp, w_push_eq rfl _, fun b hb => w_push_ne (by omega) _⟩
  have ht0 := ht.old k0
  have hr0 := hr.old k0
  have hRh := hR h.n
  simp -implicitDefEqProofs (disch := (first | omega | (simp -implicitDefEqProofs only [szs, ne_eq] <;> omega) | fail)) only [go_sem, Nat.reduceAdd, Nat.reduceSub, Nat.reduceMul, Nat.reduceLT, Nat.reduceMod, Nat.reduceDiv, Nat.reduceEqDiff, Nat.reduceBEq, Nat.reduceLeDiff, ↓reduceIte, reduceCtorEq, Int.reduceAdd, Int.reduceSub, Int.reduceLT, Int.reduceLE, Int.reduceBEq, Int.reduceEq, Int.reduceToNat, ir11, St.l, e0, b0, undefV]
  refine GCallD.of (R' := fun b => b = tb ∨ b = r) (W' := fun b => b = tb ∨ b = r) ((rights_ok ht0 (.inl rfl) (.inl rfl) a b d).kept) ?_
  rintro v h1 ⟨⟨rfl, ht1⟩, vf1⟩
  have n1 := vf1.n
  have hr1 : RefP h1 rd T2 := hr0.same (vf1.get _ (by omega) (by omega))
  simp -implicitDefEqProofs (disch := (first | omega | (simp -implicitDefEqProofs only [szs, ne_eq] <;> omega) | fail)) only [go_sem, Nat.reduceAdd, Nat.reduceSub, Nat.reduceMul, Nat.reduceLT, Nat.reduceMod, Nat.reduceDiv, Nat.reduceEqDiff, Nat.reduceBEq, Nat.reduceLeDiff, ↓reduceIte, reduceCtorEq, Int.reduceAdd, Int.reduceSub, Int.reduceLT, Int.reduceLE, Int.reduceBEq, Int.reduceEq, Int.reduceToNat]
  refine GCallD.of (R' := fun _ => False) (W' := fun _ => False) (num_ok _) ?_
  rintro v h2 ⟨rfl, rfl⟩
  have b1 := (vf1.get h.n (by omega) (by omega)).trans b0
  simp -implicitDefEqProofs (disch := (first | omega | (simp -implicitDefEqProofs only [szs, ne_eq] <;> omega) | fail)) only [go_sem, Nat.reduceAdd, Nat.reduceSub, Nat.reduceMul, Nat.reduceLT, Nat.reduceMod, Nat.reduceDiv, Nat.reduceEqDiff, Nat.reduceBEq, Nat.reduceLeDiff, ↓reduceIte, reduceCtorEq, Int.reduceAdd, Int.reduceSub, Int.reduceLT, Int.reduceLE, Int.reduceBEq, Int.reduceEq, Int.reduceToNat, b1]
  refine GCallD.of (R' := fun b => b = rd) (W' := fun b => b = rd) ((rrights_ok (R := fun b => b = rd) (W := fun b => b = rd) hr1 rfl rfl a b d).kept) ?_
  rintro v h3 ⟨⟨rfl, hr3⟩, vf3⟩
  have ht3 := ht1.same fun b hb => vf3.get b (by have := ht1.lt; omega) (by omega)
  simp -implicitDefEqProofs (disch := (first | omega | (simp -implicitDefEqProofs only [szs, ne_eq] <;> omega) | fail)) only [go_sem, Nat.reduceAdd, Nat.reduceSub, Nat.reduceMul, Nat.reduceLT, Nat.reduceMod, Nat.reduceDiv, Nat.reduceEqDiff, Nat.reduceBEq, Nat.reduceLeDiff, ↓reduceIte, reduceCtorEq, Int.reduceAdd, Int.reduceSub, Int.reduceLT, Int.reduceLE, Int.reduceBEq, Int.reduceEq, Int.reduceToNat]
  refine ⟨?_, ?_, ?_⟩
  · simp only [List.not_mem_nil, or_false, false_or, and_false, false_and, false_implies, implies_true, not_false_eq_true, List.mem_singleton, List.mem_cons, and_true, true_and]
    all_goals (try and_intros)
    all_goals (intros; omega)
  · simp only [List.not_mem_nil, or_false, false_or, and_false, false_and, false_implies, implies_true, not_false_eq_true, List.mem_singleton, List.mem_cons, and_true, true_and]
    all_goals (try and_intros)
    all_goals (intros; first | exact .inr (hR _) | exact .inr (hW _ (by omega)) | exact .inl (by omega))
  · exact ⟨tb, r, _, rfl, ht3, hr3, fun e => by subst e; simp, .inl ⟨rfl, rfl⟩⟩
set_option maxHeartbeats 4000000 in
theorem do_2 {dm : Bool} {h : Heap} {R W : Set'} {tb r rd : Nat} {T T2 : Tb} (ht : TabAt h tb r T) (hr : RefP h rd T2) (hR : ∀ b, R b) (hW : ∀ b, b = tb ∨ b = r ∨ b = rd → W b) (x : St) (hk : x.k = 2) :
    SF ⟨Try.prog, dm⟩ 11 [.ptr (some (tb, 0)), .ptr (some (rd, 0)), .agg x.l] h R W (DoQ h tb r rd T T2 x) := by
  have hlt := ht.lt
  have hlr := hr.lt
  have hne := RefP.ne ht hr
  obtain ⟨k, a, b, c, d, ad⟩ := x
  simp only at hk
  subst hk
  refine SF.go hm Try.func11 ir11_eq ?_
  obtain ⟨h0, e0, n0, b0, k0⟩ : ∃ h0, h.push (.cells (Blk.of [.int .i64 2, .int .i64 a, .int .i64 b, .int .i64 c, .int .i64 d, .int .u32 ad]) 30) = h0 ∧ h0.n = h.n + 1 ∧ h0.get h.n = some (.cells (Blk.of [.int .i64 2, .int .i64 a, .int .i64 b, .int .i64 c, .int .i64 d, .int .u32 ad]) 30) ∧ ∀ b, b < h.n → h0.get b = h.get b := ⟨_, rfl, by simp, w_push_eq rfl _, fun b hb => w_push_ne (by omega) _⟩
  have ht0 := ht.old k0
  have hr0 := hr.old k0
  have hRh := hR h.n
  simp -implicitDefEqProofs (disch := (first | omega | (simp -implicitDefEqProofs only [szs, ne_eq] <;> omega) | fail)) only [go_sem, Nat.reduceAdd, Nat.reduceSub, Nat.reduceMul, Nat.reduceLT, Nat.reduceMod, Nat.reduceDiv, Nat.reduceEqDiff, Nat.reduceBEq, Nat.reduceLeDiff, ↓reduceIte, reduceCtorEq, Int.reduceAdd, Int.reduceSub, Int.reduceLT, Int.reduceLE, Int.reduceBEq, Int.reduceEq, Int.reduceToNat, ir11, St.l, e0, b0, undefV]
  refine GCall.of ((clear_ok (R := fun b => b = tb ∨ b = r) (W := fun b => b = tb ∨ b = r) ht0 (fun _ h => h) (fun _ h => h) a b).kept.any.foot (fun b _ => .inr (hR b)) (fun b hb => .inr (hW b (by omega)))) ?_
  rintro v h1 ⟨⟨rfl, ht1⟩, vf1⟩
  have n1 := vf1.n
  have b1 := (vf1.get h.n (by omega) (by omega)).trans b0
  obtain ⟨h2, e2, n2, ⟨dx, bx, dxb, dx0, dx1, dx2, dx3⟩, k2⟩ := ent_heap h1 (getC T a b)
  have hr2 : RefP h2 rd T2 := hr0.same (by rw [k2 _ (by omega), vf1.get _ (by omega) (by omega)])
  have ht2 := ht1.old k2
  have b2 := (k2 h.n (by omega)).trans b1
  simp -implicitDefEqProofs (disch := (first | omega | (simp -implicitDefEqProofs only [szs, ne_eq] <;> omega) | fail)) only [go_sem, Nat.reduceAdd, Nat.reduceSub, Nat.reduceMul, Nat.reduceLT, Nat.reduceMod, Nat.reduceDiv, Nat.reduceEqDiff, Nat.reduceBEq, Nat.reduceLeDiff, ↓reduceIte, reduceCtorEq, Int.reduceAdd, Int.reduceSub, Int.reduceLT, Int.reduceLE, Int.reduceBEq, Int.reduceEq, Int.reduceToNat, Ce.v, e2, b2]
  refine ⟨.inl (by omega), GCall.of ((rclear_ok (R := fun b => b = rd) (W := fun b => b = rd) hr2 rfl rfl a b).kept.any.foot (fun b _ => .inr (hR b)) (fun b hb => .inr (hW b (by omega)))) ?_⟩
  rintro v h3 ⟨⟨rfl, hr3⟩, vf3⟩
  have n3 := vf3.n
  obtain ⟨h4, e4, n4, ⟨dy, by', dyb, dy0, dy1, dy2, dy3⟩, k4⟩ := ent_heap h3 (getC T2 a b)
  have ht4 : TabAt h4 tb r (stT T ⟨2, a, b, c, d, ad⟩) := (ht2.same fun b hb => vf3.get b (by have := ht2.lt; omega) (by omega)).old k4
  have hr4 : RefP h4 rd (stT T2 ⟨2, a, b, c, d, ad⟩) := hr3.old k4
  have bx4 := (k4 h1.n (by omega)).trans ((vf3.get h1.n (by omega) (by omega)).trans bx)
  have hRx := hR h1.n
  have hRy := hR h3.n
  have heq := eq_34 8 (getC T a b).f (getC T2 a b).f (getC T a b).r (getC T2 a b).r (getC T a b).t (getC T2 a b).t (getC T a b).w (getC T2 a b).w
  by_cases hq : (getC T a b).f = (getC T2 a b).f ∧ (getC T a b).r = (getC T2 a b).r ∧ (getC T a b).t = (getC T2 a b).t ∧ (getC T a b).w = (getC T2 a b).w
  · rw [decide_eq_true hq] at heq
    simp -implicitDefEqProofs (disch := (first | omega | (simp -implicitDefEqProofs only [szs, ne_eq] <;> omega) | fail)) only [go_sem, Nat.reduceAdd, Nat.reduceSub, Nat.reduceMul, Nat.reduceLT, Nat.reduceMod, Nat.reduceDiv, Nat.reduceEqDiff, Nat.reduceBEq, Nat.reduceLeDiff, ↓reduceIte, reduceCtorEq, Int.reduceAdd, Int.reduceSub, Int.reduceLT, Int.reduceLE, Int.reduceBEq, Int.reduceEq, Int.reduceToNat, Ce.v, e4, bx4, dxb, dx0, dx1, dx2, dx3, by', dyb, dy0, dy1, dy2, dy3, hRx, hRy, ↓eg_34, heq, undefV]
    repeat (refine ⟨Or.inl (by omega), ?_⟩)
    refine GCall.of (num_ok _).any ?_
    rintro v h5 ⟨rfl, rfl⟩
    simp -implicitDefEqProofs (disch := (first | omega | (simp -implicitDefEqProofs only [szs, ne_eq] <;> omega) | fail)) only [go_sem, Nat.reduceAdd, Nat.reduceSub, Nat.reduceMul, Nat.reduceLT, Nat.reduceMod, Nat.reduceDiv, Nat.reduceEqDiff, Nat.reduceBEq, Nat.reduceLeDiff, ↓reduceIte, reduceCtorEq, Int.reduceAdd, Int.reduceSub, Int.reduceLT, Int.reduceLE, Int.reduceBEq, Int.reduceEq, Int.reduceToNat, undefV]
    exact ⟨tb, r, _, rfl, ht4, hr4, fun e => by subst e; simp, .inl ⟨rfl, rfl⟩⟩
  · rw [decide_eq_false hq] at heq
    simp -implicitDefEqProofs (disch := (first | omega | (simp -implicitDefEqProofs only [szs, ne_eq] <;> omega) | fail)) only [go_sem, Nat.reduceAdd, Nat.reduceSub, Nat.reduceMul, Nat.reduceLT, Nat.reduceMod, Nat.reduceDiv, Nat.reduceEqDiff, Nat.reduceBEq, Nat.reduceLeDiff, ↓reduceIte, reduceCtorEq, Int.reduceAdd, Int.reduceSub, Int.reduceLT, Int.reduceLE, Int.reduceBEq, Int.reduceEq, Int.reduceToNat, Ce.v, e4, bx4, dxb, dx0, dx1, dx2, dx3, by', dyb, dy0, dy1, dy2, dy3, hRx, hRy, ↓eg_34, heq, undefV]
    repeat (refine ⟨Or.inl (by omega), ?_⟩)
    exact ⟨tb, r, _, rfl, ht4, hr4, fun e => by subst e; exact absurd ⟨rfl, rfl, rfl, rfl⟩ hq, .inl ⟨rfl, rfl⟩⟩
set_option maxHeartbeats 4000000 in
theorem do_5 {dm : Bool} {h : Heap} {R W : Set'} {tb r rd : Nat} {T T2 : Tb} (ht : TabAt h tb r T) (hr : RefP h rd T2) (hR : ∀ b, R b) (hW : ∀ b, b = tb ∨ b = r ∨ b = rd → W b) (x : St) (hk : x.k = 5) :
    SF ⟨Try.prog, dm⟩ 11 [.ptr (some (tb, 0)), .ptr (some (rd, 0)), .agg x.l] h R W (DoQ h tb r rd T T2 x) := by
  have hlt := ht.lt
  have hlr := hr.lt
  have hne := RefP.ne ht hr
  obtain ⟨k, a, b, c, d, ad⟩ := x
  simp only at hk
  subst hk
  refine SF.go hm Try.func11 ir11_eq ?_
  obtain ⟨h0, e0, n0, b0, k0⟩ : ∃ h0, h.push (.cells (Blk.of [.int .i64 5, .int .i64 a, .int .i64 b, .int .i64 c, .int .i64 d, .int .u32 ad]) 30) = h0 ∧ h0.n = h.n + 1 ∧ h0.get h.n = some (.cells (Blk.of [.int .i64 5, .int .i64 a, .int .i64 b, .int .i64 c, .int .i64 d, .int .u32 ad]) 30) ∧ ∀ b, b < h.n → h0.get b = h.get b := ⟨_, rfl, by simp, w_push_eq rfl _, fun b hb => w_push_ne (by omega) _⟩
  have ht0 := ht.old k0
  have hr0 := hr.old k0
  have hRh := hR h.n
  simp -implicitDefEqProofs (disch := (first | omega | (simp -implicitDefEqProofs only [szs, ne_eq] <;> omega) | fail)) only [go_sem, Nat.reduceAdd, Nat.reduceSub, Nat.reduceMul, Nat.reduceLT, Nat.reduceMod, Nat.reduceDiv, Nat.reduceEqDiff, Nat.reduceBEq, Nat.reduceLeDiff, ↓reduceIte, reduceCtorEq, Int.reduceAdd, Int.reduceSub, Int.reduceLT, Int.reduceLE, Int.reduceBEq, Int.reduceEq, Int.reduceToNat, ir11, St.l, e0, b0, undefV]
  refine GCall.of ((clean_ok (R := fun b => b = tb ∨ b = r) (W := fun b => b = tb ∨ b = r) ht0 (.inl rfl) (.inl rfl) a b).kept.any.foot (fun b _ => .inr (hR b)) (fun b hb => .inr (hW b (by omega)))) ?_
  rintro v h1 ⟨⟨rfl, ht1⟩, vf1⟩
  have n1 := vf1.n
  have b1 := (vf1.get h.n (by omega) (by omega)).trans b0
  obtain ⟨h2, e2, n2, ⟨dx, bx, dxb, dx0, dx1, dx2, dx3⟩, k2⟩ := ent_heap h1 (getC T a b)
  have hr2 : RefP h2 rd T2 := hr0.same (by rw [k2 _ (by omega), vf1.get _ (by omega) (by omega)])
  have ht2 := ht1.old k2
  have b2 := (k2 h.n (by omega)).trans b1
  simp -implicitDefEqProofs (disch := (first | omega | (simp -implicitDefEqProofs only [szs, ne_eq] <;> omega) | fail)) only [go_sem, Nat.reduceAdd, Nat.reduceSub, Nat.reduceMul, Nat.reduceLT, Nat.reduceMod, Nat.reduceDiv, Nat.reduceEqDiff, Nat.reduceBEq, Nat.reduceLeDiff, ↓reduceIte, reduceCtorEq, Int.reduceAdd, Int.reduceSub, Int.reduceLT, Int.reduceLE, Int.reduceBEq, Int.reduceEq, Int.reduceToNat, Ce.v, e2, b2]
  refine ⟨.inl (by omega), GCall.of ((rclean_ok (R := fun b => b = rd) (W := fun b => b = rd) hr2 rfl rfl a b).kept.any.foot (fun b _ => .inr (hR b)) (fun b hb => .inr (hW b (by omega)))) ?_⟩
  rintro v h3 ⟨⟨rfl, hr3⟩, vf3⟩
  have n3 := vf3.n
  obtain ⟨h4, e4, n4, ⟨dy, by', dyb, dy0, dy1, dy2, dy3⟩, k4⟩ := ent_heap h3 (getC T2 a b)
  have ht4 : TabAt h4 tb r (stT T ⟨5, a, b, c, d, ad⟩) := (ht2.same fun b hb => vf3.get b (by have := ht2.lt; omega) (by omega)).old k4
  have hr4 : RefP h4 rd (stT T2 ⟨5, a, b, c, d, ad⟩) := hr3.old k4
  have bx4 := (k4 h1.n (by omega)).trans ((vf3.get h1.n (by omega) (by omega)).trans bx)
  have hRx := hR h1.n
  have hRy := hR h3.n
  have heq := eq_34 8 (getC T a b).f (getC T2 a b).f (getC T a b).r (getC T2 a b).r (getC T a b).t (getC T2 a b).t (getC T a b).w (getC T2 a b).w
  by_cases hq : (getC T a b).f = (getC T2 a b).f ∧ (getC T a b).r = (getC T2 a b).r ∧ (getC T a b).t = (getC T2 a b).t ∧ (getC T a b).w = (getC T2 a b).w
  · rw [decide_eq_true hq] at heq
    simp -implicitDefEqProofs (disch := (first | omega | (simp -implicitDefEqProofs only [szs, ne_eq] <;> omega) | fail)) only [go_sem, Nat.reduceAdd, Nat.reduceSub, Nat.reduceMul, Nat.reduceLT, Nat.reduceMod, Nat.reduceDiv, Nat.reduceEqDiff, Nat.reduceBEq, Nat.reduceLeDiff, ↓reduceIte, reduceCtorEq, Int.reduceAdd, Int.reduceSub, Int.reduceLT, Int.reduceLE, Int.reduceBEq, Int.reduceEq, Int.reduceToNat, Ce.v, e4, bx4, dxb, dx0, dx1, dx2, dx3, by', dyb, dy0, dy1, dy2, dy3, hRx, hRy, ↓eg_34, heq, undefV]
    repeat (refine ⟨Or.inl (by omega), ?_⟩)
    refine GCall.of (num_ok _).any ?_
    rintro v h5 ⟨rfl, rfl⟩
    simp -implicitDefEqProofs (disch := (first | omega | (simp -implicitDefEqProofs only [szs, ne_eq] <;> omega) | fail)) only [go_sem, Nat.reduceAdd, Nat.reduceSub, Nat.reduceMul, Nat.reduceLT, Nat.reduceMod, Nat.reduceDiv, Nat.reduceEqDiff, Nat.reduceBEq, Nat.reduceLeDiff, ↓reduceIte, reduceCtorEq, Int.reduceAdd, Int.reduceSub, Int.reduceLT, Int.reduceLE, Int.reduceBEq, Int.reduceEq, Int.reduceToNat, undefV]
    exact ⟨tb, r, _, rfl, ht4, hr4, fun e => by subst e; simp, .inl ⟨rfl, rfl⟩⟩
  · rw [decide_eq_false hq] at heq
    simp -implicitDefEqProofs (disch := (first | omega | (simp -implicitDefEqProofs only [szs, ne_eq] <;> omega) | fail)) only [go_sem, Nat.reduceAdd, Nat.reduceSub, Nat.reduceMul, Nat.reduceLT, Nat.reduceMod, Nat.reduceDiv, Nat.reduceEqDiff, Nat.reduceBEq, Nat.reduceLeDiff, ↓reduceIte, reduceCtorEq, Int.reduceAdd, Int.reduceSub, Int.reduceLT, Int.reduceLE, Int.reduceBEq, Int.reduceEq, Int.reduceToNat, Ce.v, e4, bx4, dxb, dx0, dx1, dx2, dx3, by', dyb, dy0, dy1, dy2, dy3, hRx, hRy, ↓eg_34, heq, undefV]
    repeat (refine ⟨Or.inl (by omega), ?_⟩)
    exact ⟨tb, r, _, rfl, ht4, hr4, fun e => by subst e; exact absurd ⟨rfl, rfl, rfl, rfl⟩ hq, .inl ⟨rfl, rfl⟩⟩
set_option maxHeartbeats 4000000 in
theorem do_4 {dm : Bool} {h : Heap} {R W : Set'} {tb r rd : Nat} {T T2 : Tb} (ht : TabAt h tb r T) (hr : RefP h rd T2) (hR : ∀ b, R b) (hW : ∀ b, b = tb ∨ b = r ∨ b = rd → W b) (x : St) (hk : x.k = 4) (had : 0 ≤ x.ad ∧ x.ad ≤ 4294967295) :
    SF ⟨Try.prog, dm⟩ 11 [.ptr (some (tb, 0)), .ptr (some (rd, 0)), .agg x.l] h R W (DoQ h tb r rd T T2 x) := by
  have hlt := ht.lt
  have hlr := hr.lt
  have hne := RefP.ne ht hr
  obtain ⟨k, a, b, c, d, ad⟩ := x
  simp only at hk had
  subst hk
  refine SF.go hm Try.func11 ir11_eq ?_
  obtain ⟨h0, e0, n0, b0, k0⟩ : ∃ h0, h.push (.cells (Blk.of [.int .i64 4, .int .i64 a, .int .i64 b, .int .i64 c, .int .i64 d, .int .u32 ad]) 30) = h0 ∧ h0.n = h.n + 1 ∧ h0.get h.n = some (.cells (Blk.of [.int .i64 4, .int .i64 a, .int .i64 b, .int .i64 c, .int .i64 d, .int .u32 ad]) 30) ∧ ∀ b, b < h.n → h0.get b = h.get b := ⟨_, rfl, by simp, w_push_eq rfl _, fun b hb => w_push_ne (by omega) _⟩
  have ht0 := ht.old k0
  have hr0 := hr.old k0
  have hRh := hR h.n
  simp -implicitDefEqProofs (disch := (first | omega | (simp -implicitDefEqProofs only [szs, ne_eq] <;> omega) | fail)) only [go_sem, Nat.reduceAdd, Nat.reduceSub, Nat.reduceMul, Nat.reduceLT, Nat.reduceMod, Nat.reduceDiv, Nat.reduceEqDiff, Nat.reduceBEq, Nat.reduceLeDiff, ↓reduceIte, reduceCtorEq, Int.reduceAdd, Int.reduceSub, Int.reduceLT, Int.reduceLE, Int.reduceBEq, Int.reduceEq, Int.reduceToNat, ir11, St.l, e0, b0, undefV]
  refine GCall.of ((ask_ok (R := fun b => b = tb ∨ b = r) (W := fun b => b = tb ∨ b = r) ht0 (.inl rfl) (.inl rfl) a ad d had).kept.any.foot (fun b _ => .inr (hR b)) (fun b hb => .inr (hW b (by omega)))) ?_
  rintro v h1 ⟨⟨rfl, ht1⟩, vf1⟩
  have n1 := vf1.n
  have b1 := (vf1.get h.n (by omega) (by omega)).trans b0
  have hr1 : RefP h1 rd T2 := hr0.same (vf1.get _ (by omega) (by omega))
  simp -implicitDefEqProofs (disch := (first | omega | (simp -implicitDefEqProofs only [szs, ne_eq] <;> omega) | fail)) only [go_sem, Nat.reduceAdd, Nat.reduceSub, Nat.reduceMul, Nat.reduceLT, Nat.reduceMod, Nat.reduceDiv, Nat.reduceEqDiff, Nat.reduceBEq, Nat.reduceLeDiff, ↓reduceIte, reduceCtorEq, Int.reduceAdd, Int.reduceSub, Int.reduceLT, Int.reduceLE, Int.reduceBEq, Int.reduceEq, Int.reduceToNat, b1, undefV]
  refine GCall.of ((raskat_ok (R := fun b => b = rd) (W := fun b => b = rd) hr1 rfl rfl a ad d had).kept.any.foot (fun b _ => .inr (hR b)) (fun b hb => .inr (hW b (by omega)))) ?_
  rintro v h3 ⟨⟨rfl, hr3⟩, vf3⟩
  have ht3 : TabAt h3 tb r (stT T ⟨4, a, b, c, d, ad⟩) := ht1.same fun b hb => vf3.get b (by have := ht1.lt; omega) (by omega)
  have hr3' : RefP h3 rd (stT T2 ⟨4, a, b, c, d, ad⟩) := hr3
  by_cases q1 : askF T a ad d = askF T2 a ad d
  · have hq1 : (askF T a ad d == askF T2 a ad d) = true := by simp [q1]
    by_cases q2 : askO T a ad d = askO T2 a ad d
    · have hq2 : (askO T a ad d == askO T2 a ad d) = true := by simp [q2]
      simp -implicitDefEqProofs (disch := (first | omega | (simp -implicitDefEqProofs only [szs, ne_eq] <;> omega) | fail)) only [go_sem, Nat.reduceAdd, Nat.reduceSub, Nat.reduceMul, Nat.reduceLT, Nat.reduceMod, Nat.reduceDiv, Nat.reduceEqDiff, Nat.reduceBEq, Nat.reduceLeDiff, ↓reduceIte, reduceCtorEq, Int.reduceAdd, Int.reduceSub, Int.reduceLT, Int.reduceLE, Int.reduceBEq, Int.reduceEq, Int.reduceToNat, hq1, hq2, undefV]
      refine GCall.of (num_ok _).any ?_
      rintro v h5 ⟨rfl, rfl⟩
      simp -implicitDefEqProofs (disch := (first | omega | (simp -implicitDefEqProofs only [szs, ne_eq] <;> omega) | fail)) only [go_sem, Nat.reduceAdd, Nat.reduceSub, Nat.reduceMul, Nat.reduceLT, Nat.reduceMod, Nat.reduceDiv, Nat.reduceEqDiff, Nat.reduceBEq, Nat.reduceLeDiff, ↓reduceIte, reduceCtorEq, Int.reduceAdd, Int.reduceSub, Int.reduceLT, Int.reduceLE, Int.reduceBEq, Int.reduceEq, Int.reduceToNat, undefV]
      exact ⟨tb, r, _, rfl, ht3, hr3', fun e => by subst e; simp, .inl ⟨rfl, rfl⟩⟩
    · have hq2 : (askO T a ad d == askO T2 a ad d) = false := by simpa using q2
      simp -implicitDefEqProofs (disch := (first | omega | (simp -implicitDefEqProofs only [szs, ne_eq] <;> omega) | fail)) only [go_sem, Nat.reduceAdd, Nat.reduceSub, Nat.reduceMul, Nat.reduceLT, Nat.reduceMod, Nat.reduceDiv, Nat.reduceEqDiff, Nat.reduceBEq, Nat.reduceLeDiff, ↓reduceIte, reduceCtorEq, Int.reduceAdd, Int.reduceSub, Int.reduceLT, Int.reduceLE, Int.reduceBEq, Int.reduceEq, Int.reduceToNat, hq1, hq2, undefV]
      exact ⟨tb, r, _, rfl, ht3, hr3', fun e => by subst e; exact absurd rfl q2, .inl ⟨rfl, rfl⟩⟩
  · have hq1 : (askF T a ad d == askF T2 a ad d) = false := by simpa using q1
    simp -implicitDefEqProofs (disch := (first | omega | (simp -implicitDefEqProofs only [szs, ne_eq] <;> omega) | fail)) only [go_sem, Nat.reduceAdd, Nat.reduceSub, Nat.reduceMul, Nat.reduceLT, Nat.reduceMod, Nat.reduceDiv, Nat.reduceEqDiff, Nat.reduceBEq, Nat.reduceLeDiff, ↓reduceIte, reduceCtorEq, Int.reduceAdd, Int.reduceSub, Int.reduceLT, Int.reduceLE, Int.reduceBEq, Int.reduceEq, Int.reduceToNat, hq1, undefV]
    exact ⟨tb, r, _, rfl, ht3, hr3', fun e => by subst e; exact absurd rfl q1, .inl ⟨rfl, rfl⟩⟩
set_option maxHeartbeats 4000000 in
theorem do_6 {h : Heap} {R W : Set'} {tb r rd : Nat} {T T2 : Tb} (ht : TabAt h tb r T) (hr : RefP h rd T2) (hR : ∀ b, R b) (hW : ∀ b, b = tb ∨ b = r ∨ b = rd → W b) (x : St) (hk : x.k = 6) (w : WT T) :
    SF ⟨Try.prog, true⟩ 11 [.ptr (some (tb, 0)), .ptr (some (rd, 0)), .agg x.l] h R W (DoQ h tb r rd T T2 x) := by
  have hlt := ht.lt
  have hlr := hr.lt
  have hne := RefP.ne ht hr
  obtain ⟨k, a, b, c, d, ad⟩ := x
  simp only at hk
  subst hk
  refine SF.go hm Try.func11 ir11_eq ?_
  obtain ⟨h0, e0, n0, b0, k0⟩ : ∃ h0, h.push (.cells (Blk.of [.int .i64 6, .int .i64 a, .int .i64 b, .int .i64 c, .int .i64 d, .int .u32 ad]) 30) = h0 ∧ h0.n = h.n + 1 ∧ h0.get h.n = some (.cells (Blk.of [.int .i64 6, .int .i64 a, .int .i64 b, .int .i64 c, .int .i64 d, .int .u32 ad]) 30) ∧ ∀ b, b < h.n → h0.get b = h.get b := ⟨_, rfl, by simp, w_push_eq rfl _, fun b hb => w_push_ne (by omega) _⟩
  have ht0 := ht.old k0
  have hr0 := hr.old k0
  have hRh := hR h.n
  simp -implicitDefEqProofs (disch := (first | omega | (simp -implicitDefEqProofs only [szs, ne_eq] <;> omega) | fail)) only [go_sem, Nat.reduceAdd, Nat.reduceSub, Nat.reduceMul, Nat.reduceLT, Nat.reduceMod, Nat.reduceDiv, Nat.reduceEqDiff, Nat.reduceBEq, Nat.reduceLeDiff, ↓reduceIte, reduceCtorEq, Int.reduceAdd, Int.reduceSub, Int.reduceLT, Int.reduceLE, Int.reduceBEq, Int.reduceEq, Int.reduceToNat, ir11, St.l, e0, b0, undefV]
  refine GCall.of ((share_ok (R := fun b => b = tb ∨ b = r) (W := fun b => b = tb ∨ b = r) ht0 w (fun _ h => h) (fun _ h => h) a b).kept.foot (fun b _ => .inr (hR b)) (fun b hb => .inr (hW b (by omega)))) ?_
  rintro v h1 ⟨⟨rfl, ht1⟩, vf1⟩
  have n1 := vf1.n
  have b1 := (vf1.get h.n (by omega) (by omega)).trans b0
  have hr1 : RefP h1 rd T2 := hr0.same (vf1.get _ (by omega) (by omega))
  simp -implicitDefEqProofs (disch := (first | omega | (simp -implicitDefEqProofs only [szs, ne_eq] <;> omega) | fail)) only [go_sem, Nat.reduceAdd, Nat.reduceSub, Nat.reduceMul, Nat.reduceLT, Nat.reduceMod, Nat.reduceDiv, Nat.reduceEqDiff, Nat.reduceBEq, Nat.reduceLeDiff, ↓reduceIte, reduceCtorEq, Int.reduceAdd, Int.reduceSub, Int.reduceLT, Int.reduceLE, Int.reduceBEq, Int.reduceEq, Int.reduceToNat, b1, undefV]
  refine GCall.of ((rshare_ok (R := fun _ => True) (W := fun b => b = rd) hr1 (fun _ => trivial) rfl a b).kept.any.foot (fun b _ => .inr (hR b)) (fun b hb => .inr (hW b (by omega)))) ?_
  rintro v h3 ⟨⟨rfl, hr3⟩, vf3⟩
  have ht3 : TabAt h3 tb r (stT T ⟨6, a, b, c, d, ad⟩) := ht1.same fun b hb => vf3.get b (by have := ht1.lt; omega) (by omega)
  have hr3' : RefP h3 rd (stT T2 ⟨6, a, b, c, d, ad⟩) := hr3
  by_cases q1 : shrN T a b = shrN T2 a b
  · have hq1 : (shrN T a b == shrN T2 a b) = true := by simp [q1]
    simp -implicitDefEqProofs (disch := (first | omega | (simp -implicitDefEqProofs only [szs, ne_eq] <;> omega) | fail)) only [go_sem, Nat.reduceAdd, Nat.reduceSub, Nat.reduceMul, Nat.reduceLT, Nat.reduceMod, Nat.reduceDiv, Nat.reduceEqDiff, Nat.reduceBEq, Nat.reduceLeDiff, ↓reduceIte, reduceCtorEq, Int.reduceAdd, Int.reduceSub, Int.reduceLT, Int.reduceLE, Int.reduceBEq, Int.reduceEq, Int.reduceToNat, hq1, undefV]
    refine GCall.of (num_ok _).any ?_
    rintro v h5 ⟨rfl, rfl⟩
    simp -implicitDefEqProofs (disch := (first | omega | (simp -implicitDefEqProofs only [szs, ne_eq] <;> omega) | fail)) only [go_sem, Nat.reduceAdd, Nat.reduceSub, Nat.reduceMul, Nat.reduceLT, Nat.reduceMod, Nat.reduceDiv, Nat.reduceEqDiff, Nat.reduceBEq, Nat.reduceLeDiff, ↓reduceIte, reduceCtorEq, Int.reduceAdd, Int.reduceSub, Int.reduceLT, Int.reduceLE, Int.reduceBEq, Int.reduceEq, Int.reduceToNat, undefV]
    exact ⟨tb, r, _, rfl, ht3, hr3', fun e => by subst e; simp, .inl ⟨rfl, rfl⟩⟩
  · have hq1 : (shrN T a b == shrN T2 a b) = false := by simpa using q1
    simp -implicitDefEqProofs (disch := (first | omega | (simp -implicitDefEqProofs only [szs, ne_eq] <;> omega) | fail)) only [go_sem, Nat.reduceAdd, Nat.reduceSub, Nat.reduceMul, Nat.reduceLT, Nat.reduceMod, Nat.reduceDiv, Nat.reduceEqDiff, Nat.reduceBEq, Nat.reduceLeDiff, ↓reduceIte, reduceCtorEq, Int.reduceAdd, Int.reduceSub, Int.reduceLT, Int.reduceLE, Int.reduceBEq, Int.reduceEq, Int.reduceToNat, hq1, undefV]
    exact ⟨tb, r, _, rfl, ht3, hr3', fun e => by subst e; exact absurd rfl q1, .inl ⟨rfl, rfl⟩⟩
theorem drL_len (T : Tb) (s : Int) : (drL T s).length ≤ 32 := by
  rw [drL, frm_len, pgs_G]
  exact pgG_len T s 32
set_option maxHeartbeats 4000000 in
theorem do_7 {dm : Bool} {h : Heap} {R W : Set'} {tb r rd : Nat} {T T2 : Tb} (ht : TabAt h tb r T) (hr : RefP h rd T2) (hR : ∀ b, R b) (hW : ∀ b, b = tb ∨ b = r ∨ b = rd → W b) (x : St) (hk : x.k = 7) :
    SF ⟨Try.prog, dm⟩ 11 [.ptr (some (tb, 0)), .ptr (some (rd, 0)), .agg x.l] h R W (DoQ h tb r rd T T2 x) := by
  have hlt := ht.lt
  have hlr := hr.lt
  have hne := RefP.ne ht hr
  obtain ⟨k, a, b, c, d, ad⟩ := x
  simp only at hk
  subst hk
  refine SF.go hm Try.func11 ir11_eq ?_
  obtain ⟨h0, e0, n0, b0, k0⟩ : ∃ h0, h.push (.cells (Blk.of [.int .i64 7, .int .i64 a, .int .i64 b, .int .i64 c, .int .i64 d, .int .u32 ad]) 30) = h0 ∧ h0.n = h.n + 1 ∧ h0.get h.n = some (.cells (Blk.of [.int .i64 7, .int .i64 a, .int .i64 b, .int .i64 c, .int .i64 d, .int .u32 ad]) 30) ∧ ∀ b, b < h.n → h0.get b = h.get b := ⟨_, rfl, by simp, w_push_eq rfl _, fun b hb => w_push_ne (by omega) _⟩
  have ht0 := ht.old k0
  have hr0 := hr.old k0
  have hRh := hR h.n
  simp -implicitDefEqProofs (disch := (first | omega | (simp -implicitDefEqProofs only [szs, ne_eq] <;> omega) | fail)) only [go_sem, Nat.reduceAdd, Nat.reduceSub, Nat.reduceMul, Nat.reduceLT, Nat.reduceMod, Nat.reduceDiv, Nat.reduceEqDiff, Nat.reduceBEq, Nat.reduceLeDiff, ↓reduceIte, reduceCtorEq, Int.reduceAdd, Int.reduceSub, Int.reduceLT, Int.reduceLE, Int.reduceBEq, Int.reduceEq, Int.reduceToNat, ir11, St.l, e0, b0, undefV]
  refine GCall.of ((drop_ok (R := fun _ => True) (W := fun b => b = tb ∨ b = r) ht0 (fun _ => trivial) (fun _ h => h) a).kept.any.foot (fun b _ => .inr (hR b)) (fun b hb => .inr (hW b (by omega)))) ?_
  rintro v h1 ⟨⟨⟨lv, rfl, ho1⟩, ht1⟩, vf1⟩
  have n1 := vf1.n
  have b1 := (vf1.get h.n (by omega) (by omega)).trans b0
  have hr1 : RefP h1 rd T2 := hr0.same (vf1.get _ (by omega) (by omega))
  simp -implicitDefEqProofs (disch := (first | omega | (simp -implicitDefEqProofs only [szs, ne_eq] <;> omega) | fail)) only [go_sem, Nat.reduceAdd, Nat.reduceSub, Nat.reduceMul, Nat.reduceLT, Nat.reduceMod, Nat.reduceDiv, Nat.reduceEqDiff, Nat.reduceBEq, Nat.reduceLeDiff, ↓reduceIte, reduceCtorEq, Int.reduceAdd, Int.reduceSub, Int.reduceLT, Int.reduceLE, Int.reduceBEq, Int.reduceEq, Int.reduceToNat, b1, undefV]
  refine GCall.of ((rdrop_ok (R := fun _ => True) (W := fun b => b = rd) hr1 (fun _ => trivial) rfl a).kept.any.foot (fun b _ => .inr (hR b)) (fun b hb => .inr (hW b (by omega)))) ?_
  rintro v h3 ⟨⟨⟨lv2, rfl, ho3⟩, hr3⟩, vf3⟩
  have ht3 : TabAt h3 tb r (stT T ⟨7, a, b, c, d, ad⟩) := ht1.same fun b hb => vf3.get b (by have := ht1.lt; omega) (by omega)
  have hr3' : RefP h3 rd (stT T2 ⟨7, a, b, c, d, ad⟩) := hr3
  have ho1' := ho1.keep fun b c hb => by rw [vf3.get b (Heap.lt_of_get hb) (hr1.not3 hb)]; exact hb
  have l1 := drL_len T a
  have l2 := drL_len T2 a
  simp -implicitDefEqProofs (disch := (first | omega | (simp -implicitDefEqProofs only [szs, ne_eq] <;> omega) | fail)) only [go_sem, Nat.reduceAdd, Nat.reduceSub, Nat.reduceMul, Nat.reduceLT, Nat.reduceMod, Nat.reduceDiv, Nat.reduceEqDiff, Nat.reduceBEq, Nat.reduceLeDiff, ↓reduceIte, reduceCtorEq, Int.reduceAdd, Int.reduceSub, Int.reduceLT, Int.reduceLE, Int.reduceBEq, Int.reduceEq, Int.reduceToNat, undefV]
  refine GCall.of (sameints_ok ho1'.lr ho3.lr (fun b => .inr (hR b)) (by omega) (by omega)).any ?_
  rintro v h4 ⟨rfl, rfl⟩
  by_cases q1 : drL T a = drL T2 a
  · rw [decide_eq_true q1]
    simp -implicitDefEqProofs (disch := (first | omega | (simp -implicitDefEqProofs only [szs, ne_eq] <;> omega) | fail)) only [go_sem, Nat.reduceAdd, Nat.reduceSub, Nat.reduceMul, Nat.reduceLT, Nat.reduceMod, Nat.reduceDiv, Nat.reduceEqDiff, Nat.reduceBEq, Nat.reduceLeDiff, ↓reduceIte, reduceCtorEq, Int.reduceAdd, Int.reduceSub, Int.reduceLT, Int.reduceLE, Int.reduceBEq, Int.reduceEq, Int.reduceToNat, undefV]
    refine GCall.of (num_ok _).any ?_
    rintro v h5 ⟨rfl, rfl⟩
    simp -implicitDefEqProofs (disch := (first | omega | (simp -implicitDefEqProofs only [szs, ne_eq] <;> omega) | fail)) only [go_sem, Nat.reduceAdd, Nat.reduceSub, Nat.reduceMul, Nat.reduceLT, Nat.reduceMod, Nat.reduceDiv, Nat.reduceEqDiff, Nat.reduceBEq, Nat.reduceLeDiff, ↓reduceIte, reduceCtorEq, Int.reduceAdd, Int.reduceSub, Int.reduceLT, Int.reduceLE, Int.reduceBEq, Int.reduceEq, Int.reduceToNat, undefV]
    exact ⟨tb, r, _, rfl, ht3, hr3', fun e => by subst e; simp, .inl ⟨rfl, rfl⟩⟩
  · rw [decide_eq_false q1]
    simp -implicitDefEqProofs (disch := (first | omega | (simp -implicitDefEqProofs only [szs, ne_eq] <;> omega) | fail)) only [go_sem, Nat.reduceAdd, Nat.reduceSub, Nat.reduceMul, Nat.reduceLT, Nat.reduceMod, Nat.reduceDiv, Nat.reduceEqDiff, Nat.reduceBEq, Nat.reduceLeDiff, ↓reduceIte, reduceCtorEq, Int.reduceAdd, Int.reduceSub, Int.reduceLT, Int.reduceLE, Int.reduceBEq, Int.reduceEq, Int.reduceToNat, undefV]
    exact ⟨tb, r, _, rfl, ht3, hr3', fun e => by subst e; exact absurd rfl q1, .inl ⟨rfl, rfl⟩⟩
set_option maxHeartbeats 4000000 in
theorem do_8 {h : Heap} {R W : Set'} {tb r rd : Nat} {T T2 : Tb} (ht : TabAt h tb r T) (hr : RefP h rd T2) (hR : ∀ b, R b) (hW : ∀ b, b = tb ∨ b = r ∨ b = rd → W b) (x : St) (hk : x.k = 8) :
    SF ⟨Try.prog, true⟩ 11 [.ptr (some (tb, 0)), .ptr (some (rd, 0)), .agg x.l] h R W (DoQ h tb r rd T T2 x) := by
  have hlt := ht.lt
  have hlr := hr.lt
  have hne := RefP.ne ht hr
  obtain ⟨k, a, b, c, d, ad⟩ := x
  simp only at hk
  subst hk
  refine SF.go hm Try.func11 ir11_eq ?_
  obtain ⟨h0, e0, n0, b0, k0⟩ : ∃ h0, h.push (.cells (Blk.of [.int .i64 8, .int .i64 a, .int .i64 b, .int .i64 c, .int .i64 d, .int .u32 ad]) 30) = h0 ∧ h0.n = h.n + 1 ∧ h0.get h.n = some (.cells (Blk.of [.int .i64 8, .int .i64 a, .int .i64 b, .int .i64 c, .int .i64 d, .int .u32 ad]) 30) ∧ ∀ b, b < h.n → h0.get b = h.get b := ⟨_, rfl, by simp, w_push_eq rfl _, fun b hb => w_push_ne (by omega) _⟩
  have ht0 := ht.old k0
  have hr0 := hr.old k0
  have hRh := hR h.n
  simp -implicitDefEqProofs (disch := (first | omega | (simp -implicitDefEqProofs only [szs, ne_eq] <;> omega) | fail)) only [go_sem, Nat.reduceAdd, Nat.reduceSub, Nat.reduceMul, Nat.reduceLT, Nat.reduceMod, Nat.reduceDiv, Nat.reduceEqDiff, Nat.reduceBEq, Nat.reduceLeDiff, ↓reduceIte, reduceCtorEq, Int.reduceAdd, Int.reduceSub, Int.reduceLT, Int.reduceLE, Int.reduceBEq, Int.reduceEq, Int.reduceToNat, ir11, St.l, e0, b0, undefV]
  refine GCall.of (copy_dem ht0 (fun b => .inr (hR b))) ?_
  rintro v h1 ⟨rfl, hc1, n1, k1⟩
  have hr1 := hr0.old k1
  have ht1 := ht0.old k1
  simp -implicitDefEqProofs (disch := (first | omega | (simp -implicitDefEqProofs only [szs, ne_eq] <;> omega) | fail)) only [go_sem, Nat.reduceAdd, Nat.reduceSub, Nat.reduceMul, Nat.reduceLT, Nat.reduceMod, Nat.reduceDiv, Nat.reduceEqDiff, Nat.reduceBEq, Nat.reduceLeDiff, ↓reduceIte, reduceCtorEq, Int.reduceAdd, Int.reduceSub, Int.reduceLT, Int.reduceLE, Int.reduceBEq, Int.reduceEq, Int.reduceToNat, undefV]
  refine GCall.of (same_ok hc1 ht1 (fun b => .inr (hR b))).any ?_
  rintro v h2 ⟨rfl, rfl⟩
  rw [decide_eq_true (show sameT T T from fun s _ p _ => rfl)]
  simp -implicitDefEqProofs (disch := (first | omega | (simp -implicitDefEqProofs only [szs, ne_eq] <;> omega) | fail)) only [go_sem, Nat.reduceAdd, Nat.reduceSub, Nat.reduceMul, Nat.reduceLT, Nat.reduceMod, Nat.reduceDiv, Nat.reduceEqDiff, Nat.reduceBEq, Nat.reduceLeDiff, ↓reduceIte, reduceCtorEq, Int.reduceAdd, Int.reduceSub, Int.reduceLT, Int.reduceLE, Int.reduceBEq, Int.reduceEq, Int.reduceToNat, undefV]
  refine GCall.of ((put_ok (R := fun b => b = tb ∨ b = r) (W := fun b => b = tb ∨ b = r) ht1 (fun _ h => h) (fun _ h => h) 15 31 1 1).kept.any.foot (fun b _ => .inr (hR b)) (fun b hb => .inr (hW b (by omega)))) ?_
  rintro v h3 ⟨⟨rfl, ht3⟩, vf3⟩
  have n3 := vf3.n
  simp -implicitDefEqProofs (disch := (first | omega | (simp -implicitDefEqProofs only [szs, ne_eq] <;> omega) | fail)) only [go_sem, Nat.reduceAdd, Nat.reduceSub, Nat.reduceMul, Nat.reduceLT, Nat.reduceMod, Nat.reduceDiv, Nat.reduceEqDiff, Nat.reduceBEq, Nat.reduceLeDiff, ↓reduceIte, reduceCtorEq, Int.reduceAdd, Int.reduceSub, Int.reduceLT, Int.reduceLE, Int.reduceBEq, Int.reduceEq, Int.reduceToNat, undefV]
  refine GCall.of ((drop_ok (R := fun _ => True) (W := fun b => b = tb ∨ b = r) ht3 (fun _ => trivial) (fun _ h => h) 0).kept.any.foot (fun b _ => .inr (hR b)) (fun b hb => .inr (hW b (by omega)))) ?_
  rintro v h4 ⟨⟨⟨lv, rfl, _⟩, ht4⟩, vf4⟩
  have hr4 : RefP h4 rd (stT T2 ⟨8, a, b, c, d, ad⟩) := hr1.same ((vf4.get rd (by omega) (by omega)).trans (vf3.get rd (by omega) (by omega)))
  have hc4 : TabAt h4 (h0.n + 1) h0.n (stT T ⟨8, a, b, c, d, ad⟩) := hc1.same fun b hb => (vf4.get b (by omega) (by omega)).trans (vf3.get b (by omega) (by omega))
  simp -implicitDefEqProofs (disch := (first | omega | (simp -implicitDefEqProofs only [szs, ne_eq] <;> omega) | fail)) only [go_sem, Nat.reduceAdd, Nat.reduceSub, Nat.reduceMul, Nat.reduceLT, Nat.reduceMod, Nat.reduceDiv, Nat.reduceEqDiff, Nat.reduceBEq, Nat.reduceLeDiff, ↓reduceIte, reduceCtorEq, Int.reduceAdd, Int.reduceSub, Int.reduceLT, Int.reduceLE, Int.reduceBEq, Int.reduceEq, Int.reduceToNat, undefV]
  exact ⟨h0.n + 1, h0.n, _, rfl, hc4, hr4, fun e => rfl, .inr ⟨rfl, by show h.n ≤ _; omega, by show h.n ≤ _; omega⟩⟩
set_option maxHeartbeats 4000000 in
theorem do_0 {dm : Bool} {h : Heap} {R W : Set'} {tb r rd : Nat} {T T2 : Tb} (ht : TabAt h tb r T) (hr : RefP h rd T2) (hR : ∀ b, R b) (hW : ∀ b, b = tb ∨ b = r ∨ b = rd → W b) (x : St) (hk : x.k < 1 ∨ 8 < x.k) :
    SF ⟨Try.prog, dm⟩ 11 [.ptr (some (tb, 0)), .ptr (some (rd, 0)), .agg x.l] h R W (DoQ h tb r rd T T2 x) := by
  have hlt := ht.lt
  have hlr := hr.lt
  have hne := RefP.ne ht hr
  obtain ⟨k, a, b, c, d, ad⟩ := x
  simp only at hk
  refine SF.go hm Try.func11 ir11_eq ?_
  obtain ⟨h0, e0, n0, b0, k0⟩ : ∃ h0, h.push (.cells (Blk.of [.int .i64 k, .int .i64 a, .int .i64 b, .int .i64 c, .int .i64 d, .int .u32 ad]) 30) = h0 ∧ h0.n = h.n + 1 ∧ h0.get h.n = some (.cells (Blk.of [.int .i64 k, .int .i64 a, .int .i64 b, .int .i64 c, .int .i64 d, .int .u32 ad]) 30) ∧ ∀ b, b < h.n → h0.get b = h.get b := ⟨_, rfl, by simp, w_push_eq rfl _, fun b hb => w_push_ne (by omega) _⟩
  have ht0 := ht.old k0
  have hr0 := hr.old k0
  have hRh := hR h.n
  have q1 : (k == 1) = false := by simpa using (show k ≠ 1 by omega)
  have q2 : (k == 2) = false := by simpa using (show k ≠ 2 by omega)
  have q3 : (k == 3) = false := by simpa using (show k ≠ 3 by omega)
  have q4 : (k == 4) = false := by simpa using (show k ≠ 4 by omega)
  have q5 : (k == 5) = false := by simpa using (show k ≠ 5 by omega)
  have q6 : (k == 6) = false := by simpa using (show k ≠ 6 by omega)
  have q7 : (k == 7) = false := by simpa using (show k ≠ 7 by omega)
  have q8 : (k == 8) = false := by simpa using (show k ≠ 8 by omega)
  simp -implicitDefEqProofs (disch := (first | omega | (simp -implicitDefEqProofs only [szs, ne_eq] <;> omega) | fail)) only [go_sem, Nat.reduceAdd, Nat.reduceSub, Nat.reduceMul, Nat.reduceLT, Nat.reduceMod, Nat.reduceDiv, Nat.reduceEqDiff, Nat.reduceBEq, Nat.reduceLeDiff, ↓reduceIte, reduceCtorEq, Int.reduceAdd, Int.reduceSub, Int.reduceLT, Int.reduceLE, Int.reduceBEq, Int.reduceEq, Int.reduceToNat, ir11, St.l, e0, b0, undefV, q1, q2, q3, q4, q5, q6, q7, q8]
  have hs : ∀ T : Tb, stT T ⟨k, a, b, c, d, ad⟩ = T := fun T => by
    unfold stT
    rw [if_neg (by show ¬ k = 1; omega), if_neg (by show ¬ k = 2; omega), if_neg (by show ¬ k = 3; omega), if_neg (by show ¬ k = 4; omega), if_neg (by show ¬ k = 5; omega), if_neg (by show ¬ k = 6; omega), if_neg (by show ¬ k = 7; omega)]
  exact ⟨tb, r, _, rfl, by rw [hs]; exact ht0, by rw [hs]; exact hr0, fun e => rfl, .inl ⟨rfl, rfl⟩⟩
theorem do_dem {h : Heap} {R W : Set'} {tb r rd : Nat} {T T2 : Tb} (ht : TabAt h tb r T) (hr : RefP h rd T2) (w : WT T) (hR : ∀ b, R b) (hW : ∀ b, b = tb ∨ b = r ∨ b = rd → W b) (x : St) (had : 0 ≤ x.ad ∧ x.ad ≤ 4294967295) :
    SF ⟨Try.prog, true⟩ 11 [.ptr (some (tb, 0)), .ptr (some (rd, 0)), .agg x.l] h R W (DoQ h tb r rd T T2 x) := by
  by_cases h1 : x.k = 1
  · exact do_1 ht hr hR hW x h1
  by_cases h2 : x.k = 2
  · exact do_2 ht hr hR hW x h2
  by_cases h3 : x.k = 3
  · exact do_3 ht hr hR hW x h3
  by_cases h4 : x.k = 4
  · exact do_4 ht hr hR hW x h4 had
  by_cases h5 : x.k = 5
  · exact do_5 ht hr hR hW x h5
  by_cases h6 : x.k = 6
  · exact do_6 ht hr hR hW x h6 w
  by_cases h7 : x.k = 7
  · exact do_7 ht hr hR hW x h7
  by_cases h8 : x.k = 8
  · exact do_8 ht hr hR hW x h8
  exact do_0 ht hr hR hW x (by omega)
/-- The kinds that go over nothing: whatever the machine. -/
theorem do_any {dm : Bool} {h : Heap} {R W : Set'} {tb r rd : Nat} {T T2 : Tb} (ht : TabAt h tb r T) (hr : RefP h rd T2) (hR : ∀ b, R b) (hW : ∀ b, b = tb ∨ b = r ∨ b = rd → W b) (x : St) (had : 0 ≤ x.ad ∧ x.ad ≤ 4294967295) (h6 : x.k ≠ 6) (h8 : x.k ≠ 8) :
    SF ⟨Try.prog, dm⟩ 11 [.ptr (some (tb, 0)), .ptr (some (rd, 0)), .agg x.l] h R W (DoQ h tb r rd T T2 x) := by
  by_cases h1 : x.k = 1
  · exact do_1 ht hr hR hW x h1
  by_cases h2 : x.k = 2
  · exact do_2 ht hr hR hW x h2
  by_cases h3 : x.k = 3
  · exact do_3 ht hr hR hW x h3
  by_cases h4 : x.k = 4
  · exact do_4 ht hr hR hW x h4 had
  by_cases h5 : x.k = 5
  · exact do_5 ht hr hR hW x h5
  by_cases h7 : x.k = 7
  · exact do_7 ht hr hR hW x h7
  exact do_0 ht hr hR hW x (by omega)
end Go.Proofs.Ytkfhdaimememiaa
