/- The document's pool: Grant. -/
import Derived.Test.YtfgdpgagcnelpaaR3
set_option linter.unusedVariables false
set_option linter.unusedSimpArgs false
set_option linter.unusedSimpArgs false
set_option maxRecDepth 100000
set_option linter.unusedVariables false
set_option linter.unusedSimpArgs false
namespace Go.Proofs.Ytfgdpgagcnelpaa
open Go Go.Vm
theorem rgrant_bad {h : Heap} {R W : Set'} {n0 rd : Nat} {L : RL} {S : PS} {bv : Nat → V} (hr : RPool h n0 rd L S bv) (hR : ∀ b, R b) (k : Int) (hk : ¬ (0 ≤ k ∧ k < S.na)) :
    SF Try.prog 45 [.ptr (some (rd, 0)), .int .i64 k] h R W fun v h' => v = .tuple [.int .i64 0, .int .i64 2] ∧ h' = h := by
  refine SF.go hm Try.func45 ir45_eq ?_
  simp -implicitDefEqProofs (disch := (first | omega | (simp -implicitDefEqProofs only [szs, ne_eq] <;> omega) | fail)) only [go_sem, Nat.reduceAdd, Nat.reduceSub, Nat.reduceMul, Nat.reduceLT, Nat.reduceMod, Nat.reduceDiv, Nat.reduceEqDiff, Nat.reduceBEq, Nat.reduceLeDiff, ↓reduceIte, reduceCtorEq, Int.reduceAdd, Int.reduceSub, Int.reduceLT, Int.reduceLE, Int.reduceBEq, Int.reduceEq, Int.reduceToNat, ir45]
  refine GCall.of (racc_ok hr (fun b => .inr (hR b)) k) ?_
  rintro v h1 ⟨rfl, rfl⟩
  rw [decide_eq_false hk]
  simp -implicitDefEqProofs (disch := (first | omega | (simp -implicitDefEqProofs only [szs, ne_eq] <;> omega) | fail)) only [go_sem, Nat.reduceAdd, Nat.reduceSub, Nat.reduceMul, Nat.reduceLT, Nat.reduceMod, Nat.reduceDiv, Nat.reduceEqDiff, Nat.reduceBEq, Nat.reduceLeDiff, ↓reduceIte, reduceCtorEq, Int.reduceAdd, Int.reduceSub, Int.reduceLT, Int.reduceLE, Int.reduceBEq, Int.reduceEq, Int.reduceToNat]
theorem rgrant_full {h : Heap} {R W : Set'} {n0 rd : Nat} {L : RL} {S : PS} {bv : Nat → V} (hr : RPool h n0 rd L S bv) (w : WF S) (hR : ∀ b, R b) {a : Nat} (ha : a < S.na) (he : S.us a = S.qu a) :
    SF Try.prog 45 [.ptr (some (rd, 0)), .int .i64 a] h R W fun v h' => v = .tuple [.int .i64 0, .int .i64 5] ∧ h' = h := by
  obtain ⟨cp, p1, p2, p3, p4⟩ := hr.p
  obtain ⟨q, q1, ⟨qs, qr, qg⟩⟩ := hr.q
  have hq := qg a ha
  have hR1 := hR rd
  have hR2 := hR L.qb
  have hk : 0 ≤ (a : Int) ∧ (a : Int) < S.na := by omega
  obtain ⟨ha0, ha1⟩ := id hk
  have has : a < q.size := by omega
  refine SF.go hm Try.func45 ir45_eq ?_
  simp -implicitDefEqProofs (disch := (first | omega | (simp -implicitDefEqProofs only [szs, ne_eq] <;> omega) | fail)) only [go_sem, Nat.reduceAdd, Nat.reduceSub, Nat.reduceMul, Nat.reduceLT, Nat.reduceMod, Nat.reduceDiv, Nat.reduceEqDiff, Nat.reduceBEq, Nat.reduceLeDiff, ↓reduceIte, reduceCtorEq, Int.reduceAdd, Int.reduceSub, Int.reduceLT, Int.reduceLE, Int.reduceBEq, Int.reduceEq, Int.reduceToNat, ir45]
  refine GCall.of (racc_ok hr (fun b => .inr (hR b)) a) ?_
  rintro v h1 ⟨rfl, rfl⟩
  rw [decide_eq_true hk]
  simp -implicitDefEqProofs (disch := (first | omega | (simp -implicitDefEqProofs only [szs, ne_eq] <;> omega) | fail)) only [go_sem, Nat.reduceAdd, Nat.reduceSub, Nat.reduceMul, Nat.reduceLT, Nat.reduceMod, Nat.reduceDiv, Nat.reduceEqDiff, Nat.reduceBEq, Nat.reduceLeDiff, ↓reduceIte, reduceCtorEq, Int.reduceAdd, Int.reduceSub, Int.reduceLT, Int.reduceLE, Int.reduceBEq, Int.reduceEq, Int.reduceToNat]
  refine GCallD.of (R' := fun _ => True) (W' := fun _ => False) (rused_ok hr w (fun _ => trivial) a) ?_
  rintro v h1 ⟨rfl, rfl⟩
  rw [if_pos hk]
  simp only [Int.toNat_natCast, he]
  simp -implicitDefEqProofs (disch := (first | omega | (simp -implicitDefEqProofs only [szs, ne_eq] <;> omega) | fail)) only [go_sem, Nat.reduceAdd, Nat.reduceSub, Nat.reduceMul, Nat.reduceLT, Nat.reduceMod, Nat.reduceDiv, Nat.reduceEqDiff, Nat.reduceBEq, Nat.reduceLeDiff, ↓reduceIte, reduceCtorEq, Int.reduceAdd, Int.reduceSub, Int.reduceLT, Int.reduceLE, Int.reduceBEq, Int.reduceEq, Int.reduceToNat, p1, p2, p4, hR1, hR2, q1, hq, has, ha0, ha1]
  refine ⟨?_, fun b _ _ => .inr (hR b), fun b _ h => h.elim⟩
  simp only [List.not_mem_nil, or_false, false_or, and_false, false_and, false_implies, implies_true, not_false_eq_true, List.mem_singleton, List.mem_cons, and_true, true_and]
  all_goals (try and_intros)
  all_goals (intros; omega)
set_option maxHeartbeats 2000000 in
theorem rgrant_at {h : Heap} {R W : Set'} {n0 rd : Nat} {L : RL} {S : PS} {bv : Nat → V} (hr : RPool h n0 rd L S bv) (w : WF S) (hR : ∀ b, R b) (hW : ∀ b, n0 ≤ b → W b) {a : Nat} (ha : a < S.na) (hlt : S.us a < S.qu a) {i : Nat} (hi : i < S.n) (h0 : S.ho i = 0) (hl : ∀ j, j < i → S.ho j ≠ 0) :
    SF Try.prog 45 [.ptr (some (rd, 0)), .int .i64 a] h R W fun v h' => v = .tuple [.int .i64 i, .int .i64 0] ∧ ∃ bv', RPool h' n0 rd L (S.grant i a) bv' := by
  obtain ⟨b1, b2, b3, b4, b5⟩ := hr.blocks
  obtain ⟨cp, p1, p2, p3, p4⟩ := hr.p
  obtain ⟨f, f1, ⟨fs, fr, fo, fh, fv⟩⟩ := hr.f
  obtain ⟨q, q1, ⟨qs, qr, qg⟩⟩ := hr.q
  have hq := qg a ha
  have hR1 := hR rd
  have hR2 := hR L.qb
  have hR3 := hR L.fb
  have hW3 := hW L.fb hr.lt.2.2.1
  have hk : 0 ≤ (a : Int) ∧ (a : Int) < S.na := by omega
  obtain ⟨ha0, ha1⟩ := id hk
  have has : a < q.size := by omega
  have hge : ¬ S.us a ≥ S.qu a := by omega
  have hn := w.n
  refine SF.go hm Try.func45 ir45_eq ?_
  simp -implicitDefEqProofs (disch := (first | omega | (simp -implicitDefEqProofs only [szs, ne_eq] <;> omega) | fail)) only [go_sem, Nat.reduceAdd, Nat.reduceSub, Nat.reduceMul, Nat.reduceLT, Nat.reduceMod, Nat.reduceDiv, Nat.reduceEqDiff, Nat.reduceBEq, Nat.reduceLeDiff, ↓reduceIte, reduceCtorEq, Int.reduceAdd, Int.reduceSub, Int.reduceLT, Int.reduceLE, Int.reduceBEq, Int.reduceEq, Int.reduceToNat, ir45]
  refine GCall.of (racc_ok hr (fun b => .inr (hR b)) a) ?_
  rintro v h1 ⟨rfl, rfl⟩
  rw [decide_eq_true hk]
  simp -implicitDefEqProofs (disch := (first | omega | (simp -implicitDefEqProofs only [szs, ne_eq] <;> omega) | fail)) only [go_sem, Nat.reduceAdd, Nat.reduceSub, Nat.reduceMul, Nat.reduceLT, Nat.reduceMod, Nat.reduceDiv, Nat.reduceEqDiff, Nat.reduceBEq, Nat.reduceLeDiff, ↓reduceIte, reduceCtorEq, Int.reduceAdd, Int.reduceSub, Int.reduceLT, Int.reduceLE, Int.reduceBEq, Int.reduceEq, Int.reduceToNat]
  refine GCallD.of (R' := fun _ => True) (W' := fun _ => False) (rused_ok hr w (fun _ => trivial) a) ?_
  rintro v h1 ⟨rfl, rfl⟩
  rw [if_pos hk]
  simp only [Int.toNat_natCast]
  simp -implicitDefEqProofs (disch := (first | omega | (simp -implicitDefEqProofs only [szs, ne_eq] <;> omega) | fail)) only [go_sem, Nat.reduceAdd, Nat.reduceSub, Nat.reduceMul, Nat.reduceLT, Nat.reduceMod, Nat.reduceDiv, Nat.reduceEqDiff, Nat.reduceBEq, Nat.reduceLeDiff, ↓reduceIte, reduceCtorEq, Int.reduceAdd, Int.reduceSub, Int.reduceLT, Int.reduceLE, Int.reduceBEq, Int.reduceEq, Int.reduceToNat, p1, p2, p4, hR1, hR2, q1, hq, has, ha0, ha1, hge]
  refine ⟨?_, ⟨fun b _ _ => .inr (hR b), fun b _ h => h.elim⟩, ?_⟩
  · simp only [List.not_mem_nil, or_false, false_or, and_false, false_and, false_implies, implies_true, not_false_eq_true, List.mem_singleton, List.mem_cons, and_true, true_and]
    all_goals (try and_intros)
    all_goals (intros; omega)
  refine GLoop.inv hm (fun k f' gg => f'.mks = [] ∧ f'.tm.n = 45 ∧ f'.tm.get 0 = some (.ptr (some (rd, 0))) ∧ f'.tm.get 1 = some (.int .i64 a) ∧ gg = h1 ∧ ∃ p : Nat, p + k = i ∧ f'.tm.get 6 = some (.int .i64 p)) i ?_ ?_
  · exact ⟨rfl, rfl, by simp -implicitDefEqProofs (disch := (first | omega | (simp -implicitDefEqProofs only [szs, ne_eq] <;> omega) | fail)) only [go_sem, Nat.reduceAdd, Nat.reduceSub, Nat.reduceMul, Nat.reduceLT, Nat.reduceMod, Nat.reduceDiv, Nat.reduceEqDiff, Nat.reduceBEq, Nat.reduceLeDiff, ↓reduceIte, reduceCtorEq, Int.reduceAdd, Int.reduceSub, Int.reduceLT, Int.reduceLE, Int.reduceBEq, Int.reduceEq, Int.reduceToNat], by simp -implicitDefEqProofs (disch := (first | omega | (simp -implicitDefEqProofs only [szs, ne_eq] <;> omega) | fail)) only [go_sem, Nat.reduceAdd, Nat.reduceSub, Nat.reduceMul, Nat.reduceLT, Nat.reduceMod, Nat.reduceDiv, Nat.reduceEqDiff, Nat.reduceBEq, Nat.reduceLeDiff, ↓reduceIte, reduceCtorEq, Int.reduceAdd, Int.reduceSub, Int.reduceLT, Int.reduceLE, Int.reduceBEq, Int.reduceEq, Int.reduceToNat], rfl, 0, by omega, by simp -implicitDefEqProofs (disch := (first | omega | (simp -implicitDefEqProofs only [szs, ne_eq] <;> omega) | fail)) only [go_sem, Nat.reduceAdd, Nat.reduceSub, Nat.reduceMul, Nat.reduceLT, Nat.reduceMod, Nat.reduceDiv, Nat.reduceEqDiff, Nat.reduceBEq, Nat.reduceLeDiff, ↓reduceIte, reduceCtorEq, Int.reduceAdd, Int.reduceSub, Int.reduceLT, Int.reduceLE, Int.reduceBEq, Int.reduceEq, Int.reduceToNat]; rfl⟩
  rintro k ⟨⟨n', tr⟩, mks⟩ gg ⟨hmk, hn', t0, t1, rfl, p, hpk, t6⟩
  simp only [Tm.get_mk] at hmk hn' t0 t1 t6
  subst hmk hn'
  have hpn : p < S.n := by omega
  have hh := fh p hpn
  have hs : p * 3 + 1 < f.size := by omega
  have hp0 : (0 : Int) ≤ (p : Int) := by omega
  have hp1 : (p : Int) < (S.n : Nat) := by omega
  by_cases hp : p < i
  · have h2 : 0 < S.ho p := by have := hl p hp; have := w.ho p hpn; omega
    simp -implicitDefEqProofs (disch := (first | omega | (simp -implicitDefEqProofs only [szs, ne_eq] <;> omega) | fail)) only [go_sem, Nat.reduceAdd, Nat.reduceSub, Nat.reduceMul, Nat.reduceLT, Nat.reduceMod, Nat.reduceDiv, Nat.reduceEqDiff, Nat.reduceBEq, Nat.reduceLeDiff, ↓reduceIte, reduceCtorEq, Int.reduceAdd, Int.reduceSub, Int.reduceLT, Int.reduceLE, Int.reduceBEq, Int.reduceEq, Int.reduceToNat, ir45_l0, t0, t1, t6, p1, p2, p3, hR1, hR3, f1, hh, hs, hp0, hp1, h2]
    exact ⟨k - 1, by omega, p + 1, by omega, by simp⟩
  · obtain rfl : p = i := by omega
    have h2 : ¬ 0 < S.ho p := by omega
    simp -implicitDefEqProofs (disch := (first | omega | (simp -implicitDefEqProofs only [szs, ne_eq] <;> omega) | fail)) only [go_sem, Nat.reduceAdd, Nat.reduceSub, Nat.reduceMul, Nat.reduceLT, Nat.reduceMod, Nat.reduceDiv, Nat.reduceEqDiff, Nat.reduceBEq, Nat.reduceLeDiff, ↓reduceIte, reduceCtorEq, Int.reduceAdd, Int.reduceSub, Int.reduceLT, Int.reduceLE, Int.reduceBEq, Int.reduceEq, Int.reduceToNat, ir45_l0, t0, t1, t6, p1, p2, p3, hR1, hR3, f1, fr, hh, hs, hp0, hp1, h2, hW3]
    obtain ⟨F, hF⟩ : ∃ F, F = ((f.set (p * 3) (V.int IntKind.i64 ↑a)).set (p * 3 + 1) (V.int IntKind.i64 1)).set (p * 3 + 1 + 1) (V.slice (some (gg.n, 0)) 256 256 true) := ⟨_, rfl⟩
    have F0 : F.get (p * 3) = .int .i64 a := by rw [hF, w_bset_ne (by omega) _, w_bset_ne (by omega) _, w_bset_eq rfl]
    have F1 : F.get (p * 3 + 1) = .int .i64 1 := by rw [hF, w_bset_ne (by omega) _, w_bset_eq rfl]
    have F2 : F.get (p * 3 + 1 + 1) = .slice (some (gg.n, 0)) 256 256 true := by rw [hF, w_bset_eq rfl]
    have F3 : ∀ y, y ≠ p * 3 → y ≠ p * 3 + 1 → y ≠ p * 3 + 1 + 1 → F.get y = f.get y := fun y e1 e2 e3 => by rw [hF, w_bset_ne e3 _, w_bset_ne e2 _, w_bset_ne e1 _]
    have F4 : F.size = f.size := by rw [hF, Blk.size_set, Blk.size_set, Blk.size_set]
    have F5 : F.ro = f.ro := by rw [hF, Blk.ro_set, Blk.ro_set, Blk.ro_set]
    rw [← hF]
    clear hF
    have hlb : L.fb < (gg.push (O.cells (Blk.rep 256 [V.int IntKind.u8 0]) 5)).n := by simp; omega
    have hold : ∀ b, b < gg.n → b ≠ L.fb → ((gg.push (O.cells (Blk.rep 256 [V.int IntKind.u8 0]) 5)).set L.fb (O.cells F 83)).get b = gg.get b := fun b h1 h2 => by rw [w_set_ne hlb h2, w_push_ne (by omega)]
    have hnew : ((gg.push (O.cells (Blk.rep 256 [V.int IntKind.u8 0]) 5)).set L.fb (O.cells F 83)).get gg.n = some (O.cells (Blk.rep 256 [V.int IntKind.u8 0]) 5) := by rw [w_set_ne hlb (by omega), w_push_eq rfl]
    refine ⟨?_, fun j => if j = p then .slice (some (gg.n, 0)) 256 256 true else bv j, ⟨by have := hr.lt.1; simp; omega, hr.lt.2⟩, hr.pos, ⟨cp, by rw [hold _ b1 b4]; exact p1, p2, p3, p4⟩, ⟨F, w_set_eq hlb rfl _, by rw [F4]; exact fs, by rw [F5]; exact fr, fun j hj => ?_, fun j hj => ?_, fun j hj => ?_⟩, ⟨q, by rw [hold _ b3 b5]; exact q1, qs, qr, qg⟩, fun j hj => ?_, fun j k hj hk hne => ?_⟩
    · simp only [List.not_mem_nil, or_false, false_or, and_false, false_and, false_implies, implies_true, not_false_eq_true, List.mem_singleton, List.mem_cons, and_true, true_and]
      all_goals (try and_intros)
      all_goals (intros; omega)
    · by_cases e : j = p
      · subst e; rw [F0]; simp [PS.grant]
      · rw [F3 _ (by omega) (by omega) (by omega), fo j hj]; simp [PS.grant, e]
    · by_cases e : j = p
      · subst e; rw [F1]; simp [PS.grant]
      · rw [F3 _ (by omega) (by omega) (by omega), fh j hj]; simp [PS.grant, e]
    · by_cases e : j = p
      · subst e; rw [show j * 3 + 2 = j * 3 + 1 + 1 by omega, F2]; simp
      · rw [F3 _ (by omega) (by omega) (by omega), fv j hj]; simp [e]
    · by_cases e : j = p
      · subst e
        refine .inr ⟨fun _ => 0, ⟨gg.n, true, _, by simp, hr.lt.1, hnew, rfl, rfl, fun y hy => by rw [rep_get]; simp [Nat.mod_one]⟩, fun _ y hy => by simp [PS.grant]⟩
      · simp only [if_neg e]
        rcases hr.b j hj with ⟨h1, h2⟩ | ⟨g, ⟨b, x, cb, e1, e2, e3, e4⟩, h2⟩
        · exact .inl ⟨h1, by simp [PS.grant, e, h2]⟩
        · refine .inr ⟨g, ⟨b, x, cb, e1, e2, ?_, e4⟩, fun hne y hy => ?_⟩
          · rw [hold b (Heap.lt_of_get e3) (fun e' => by rw [e', f1] at e3; cases e3)]; exact e3
          · simp only [PS.grant, if_neg e] at hne ⊢
            exact h2 hne y hy
    · have hlow : ∀ j, j < S.n → bv j = nilV ∨ sblk (bv j) ≠ gg.n := fun j hj => by
        rcases hr.b j hj with ⟨h1, _⟩ | ⟨g, ⟨b, x, cb, e1, e2, e3, _⟩, _⟩
        · exact .inl h1
        · have := Heap.lt_of_get e3
          exact .inr (by rw [e1]; show b ≠ gg.n; omega)
      by_cases ej : j = p
      · have ek : k ≠ p := fun h => hne (by omega)
        simp only [if_pos ej, if_neg ek]
        rcases hlow k hk with h | h
        · exact .inr (.inl h)
        · exact .inr (.inr (Ne.symm h))
      · by_cases ek : k = p
        · simp only [if_neg ej, if_pos ek]
          rcases hlow j hj with h | h
          · exact .inl h
          · exact .inr (.inr h)
        · simp only [if_neg ej, if_neg ek]
          exact hr.dis j k hj hk hne
end Go.Proofs.Ytfgdpgagcnelpaa
