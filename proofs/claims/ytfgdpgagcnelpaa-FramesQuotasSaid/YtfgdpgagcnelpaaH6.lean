/- The pool: what any call leaves. -/
import Derived.Test.YtfgdpgagcnelpaaH3
import Derived.Test.YtfgdpgagcnelpaaH4
set_option maxRecDepth 100000
set_option linter.unusedVariables false
set_option linter.unusedSimpArgs false
namespace Go.Proofs.Ytfgdpgagcnelpaa
open Go Go.Vm

theorem PoolAt.same' {h h' : Heap} {bp : Nat} {L : PL} {S : PS} (hp : PoolAt h bp L S) (k0 : h'.get bp = h.get bp) (k1 : h'.get L.fb = h.get L.fb) (k2 : h'.get L.qb = h.get L.qb) (k3 : h'.get L.ub = h.get L.ub) : PoolAt h' bp L S :=
  ⟨hp.pos, by rw [k0]; exact hp.p, by rw [k1]; exact hp.f, by rw [k2]; exact hp.q, by rw [k3]; exact hp.u, hp.ne, hp.lo⟩
theorem PoolAt.old {h h' : Heap} {bp : Nat} {L : PL} {S : PS} (hp : PoolAt h bp L S) (hk : ∀ b, b < h.n → h'.get b = h.get b) : PoolAt h' bp L S := by
  obtain ⟨c, h1, _⟩ := hp.p
  obtain ⟨d, h2, _⟩ := hp.f
  obtain ⟨q, h3, _⟩ := hp.q
  obtain ⟨u, h4, _⟩ := hp.u
  exact hp.same' (hk _ (Heap.lt_of_get h1)) (hk _ (Heap.lt_of_get h2)) (hk _ (Heap.lt_of_get h3)) (hk _ (Heap.lt_of_get h4))
theorem PoolAt.push {h : Heap} {bp : Nat} {L : PL} {S : PS} (hp : PoolAt h bp L S) (o : O) : PoolAt (h.push o) bp L S :=
  hp.old fun b hb => by rw [Heap.get_push, if_neg (by omega)]
theorem WF.new {n m : Nat} {g : Nat → Int} (hn : n ≤ 256) (hq : okQ m g) (hs : sumTo g m ≤ n) : WF (PS.new n m g) := by
  refine ⟨fun i _ => by simp [PS.new], fun i _ h => by simp [PS.new] at h, fun a _ => ?_, fun a ha => by simpa [PS.new] using (hq a ha).1, fun a ha => (hq a ha).2, hs, hn⟩
  simp only [PS.new]
  have : ∀ n, cnt (fun i => decide ((0 : Int) ≠ 0 ∧ (0 : Int) = (a : Nat))) n = 0 := fun n => by
    induction n with
    | zero => rfl
    | succ k ih => simp only [cnt, ih]; simp
  exact (this n).symm
theorem WF.put {S : PS} (w : WF S) (i j m : Nat) (g : Nat → Int) : WF (S.put i j m g) := ⟨w.ho, w.ow, w.us, w.le, w.qu, w.sum, w.n⟩
theorem page_no {h : Heap} {R W : Set'} {bp : Nat} {L : PL} {S : PS} (hp : PoolAt h bp L S) (hR : R bp) (hRf : R L.fb) (k : Int) (hk : ¬ Owned S k) :
    SF Try.prog 15 [.ptr (some (bp, 0)), .int .i64 k] h R W fun v h' => v = .tuple [.slice none 0 0 true, .int .i64 6] ∧ h' = h := by
  refine SF.go hm Try.func15 ir15_eq ?_
  simp -implicitDefEqProofs (disch := (first | omega | (simp -implicitDefEqProofs only [Heap.n_push, Heap.n_set, Blk.size_set, Blk.size_puts, Blk.size_putA, w_of_size, w_rep_size, List.length_cons, List.length_nil, ne_eq] <;> omega) | fail)) only [go_sem, List.length_cons, List.length_nil, Nat.one_mod, Nat.zero_div, List.getElem?_cons_zero, List.getElem?_cons_succ, List.getElem?_toArray, List.getElem?_nil, Bool.not_false, Bool.not_true, beq_self_eq_true, Bool.not_eq_true, true_and, and_true, true_or, or_true, false_or, or_false, List.append_nil, List.nil_append, List.cons_append, Option.map_some, Option.map_none, Option.some.injEq, decide_true, decide_false, if_true, if_false, Bool.false_eq_true, gt_iff_lt, ge_iff_le, Nat.zero_add, Nat.add_zero, Nat.zero_mul, Nat.mul_zero, Nat.mul_one, Nat.one_mul, implies_true, Nat.reduceAdd, Nat.reduceSub, Nat.reduceMul, Nat.reduceLT, Nat.reduceMod, Nat.reduceDiv, Nat.reduceEqDiff, Nat.reduceBEq, Nat.reduceLeDiff, ↓reduceIte, reduceCtorEq, Int.reduceAdd, Int.reduceSub, Int.reduceLT, Int.reduceLE, Int.reduceBEq, Int.reduceEq, Int.reduceToNat, w_blt_t, w_blt_f, w_ble_t, w_ble_f, w_beq_t, w_beq_f, w_ilt_t, w_ilt_f, w_ile_t, w_ile_f, w_ieq_t, w_ieq_f, w_idx, w_ite, w_push_eq, w_push_ne, w_set_eq, w_set_ne, w_bset_eq, w_bset_ne, w_of_get, w_i64, Blk.putA_short, and_self, Nat.add_eq, Nat.reduceLeDiff, Nat.le_refl, Nat.le_add_right, ir15]
  refine GCall.of (at_no hp (.inr hR) (.inr hRf) k hk) ?_
  rintro v h' ⟨rfl, rfl⟩
  simp -implicitDefEqProofs (disch := (first | omega | (simp -implicitDefEqProofs only [Heap.n_push, Heap.n_set, Blk.size_set, Blk.size_puts, Blk.size_putA, w_of_size, w_rep_size, List.length_cons, List.length_nil, ne_eq] <;> omega) | fail)) only [go_sem, List.length_cons, List.length_nil, Nat.one_mod, Nat.zero_div, List.getElem?_cons_zero, List.getElem?_cons_succ, List.getElem?_toArray, List.getElem?_nil, Bool.not_false, Bool.not_true, beq_self_eq_true, Bool.not_eq_true, true_and, and_true, true_or, or_true, false_or, or_false, List.append_nil, List.nil_append, List.cons_append, Option.map_some, Option.map_none, Option.some.injEq, decide_true, decide_false, if_true, if_false, Bool.false_eq_true, gt_iff_lt, ge_iff_le, Nat.zero_add, Nat.add_zero, Nat.zero_mul, Nat.mul_zero, Nat.mul_one, Nat.one_mul, implies_true, Nat.reduceAdd, Nat.reduceSub, Nat.reduceMul, Nat.reduceLT, Nat.reduceMod, Nat.reduceDiv, Nat.reduceEqDiff, Nat.reduceBEq, Nat.reduceLeDiff, ↓reduceIte, reduceCtorEq, Int.reduceAdd, Int.reduceSub, Int.reduceLT, Int.reduceLE, Int.reduceBEq, Int.reduceEq, Int.reduceToNat, w_blt_t, w_blt_f, w_ble_t, w_ble_f, w_beq_t, w_beq_f, w_ilt_t, w_ilt_f, w_ile_t, w_ile_f, w_ieq_t, w_ieq_f, w_idx, w_ite, w_push_eq, w_push_ne, w_set_eq, w_set_ne, w_bset_eq, w_bset_ne, w_of_get, w_i64, Blk.putA_short, and_self, Nat.add_eq, Nat.reduceLeDiff, Nat.le_refl, Nat.le_add_right]
theorem drop_no {h : Heap} {R W : Set'} {bp : Nat} {L : PL} {S : PS} (hp : PoolAt h bp L S) (hR : R bp) (hRf : R L.fb) (k : Int) (hk : ¬ Owned S k) :
    SF Try.prog 13 [.ptr (some (bp, 0)), .int .i64 k] h R W fun v h' => v = .tuple [.bool false, .int .i64 6] ∧ h' = h := by
  refine SF.go hm Try.func13 ir13_eq ?_
  simp -implicitDefEqProofs (disch := (first | omega | (simp -implicitDefEqProofs only [Heap.n_push, Heap.n_set, Blk.size_set, Blk.size_puts, Blk.size_putA, w_of_size, w_rep_size, List.length_cons, List.length_nil, ne_eq] <;> omega) | fail)) only [go_sem, List.length_cons, List.length_nil, Nat.one_mod, Nat.zero_div, List.getElem?_cons_zero, List.getElem?_cons_succ, List.getElem?_toArray, List.getElem?_nil, Bool.not_false, Bool.not_true, beq_self_eq_true, Bool.not_eq_true, true_and, and_true, true_or, or_true, false_or, or_false, List.append_nil, List.nil_append, List.cons_append, Option.map_some, Option.map_none, Option.some.injEq, decide_true, decide_false, if_true, if_false, Bool.false_eq_true, gt_iff_lt, ge_iff_le, Nat.zero_add, Nat.add_zero, Nat.zero_mul, Nat.mul_zero, Nat.mul_one, Nat.one_mul, implies_true, Nat.reduceAdd, Nat.reduceSub, Nat.reduceMul, Nat.reduceLT, Nat.reduceMod, Nat.reduceDiv, Nat.reduceEqDiff, Nat.reduceBEq, Nat.reduceLeDiff, ↓reduceIte, reduceCtorEq, Int.reduceAdd, Int.reduceSub, Int.reduceLT, Int.reduceLE, Int.reduceBEq, Int.reduceEq, Int.reduceToNat, w_blt_t, w_blt_f, w_ble_t, w_ble_f, w_beq_t, w_beq_f, w_ilt_t, w_ilt_f, w_ile_t, w_ile_f, w_ieq_t, w_ieq_f, w_idx, w_ite, w_push_eq, w_push_ne, w_set_eq, w_set_ne, w_bset_eq, w_bset_ne, w_of_get, w_i64, Blk.putA_short, and_self, Nat.add_eq, Nat.reduceLeDiff, Nat.le_refl, Nat.le_add_right, ir13]
  refine GCall.of (at_no hp (.inr hR) (.inr hRf) k hk) ?_
  rintro v h' ⟨rfl, rfl⟩
  simp -implicitDefEqProofs (disch := (first | omega | (simp -implicitDefEqProofs only [Heap.n_push, Heap.n_set, Blk.size_set, Blk.size_puts, Blk.size_putA, w_of_size, w_rep_size, List.length_cons, List.length_nil, ne_eq] <;> omega) | fail)) only [go_sem, List.length_cons, List.length_nil, Nat.one_mod, Nat.zero_div, List.getElem?_cons_zero, List.getElem?_cons_succ, List.getElem?_toArray, List.getElem?_nil, Bool.not_false, Bool.not_true, beq_self_eq_true, Bool.not_eq_true, true_and, and_true, true_or, or_true, false_or, or_false, List.append_nil, List.nil_append, List.cons_append, Option.map_some, Option.map_none, Option.some.injEq, decide_true, decide_false, if_true, if_false, Bool.false_eq_true, gt_iff_lt, ge_iff_le, Nat.zero_add, Nat.add_zero, Nat.zero_mul, Nat.mul_zero, Nat.mul_one, Nat.one_mul, implies_true, Nat.reduceAdd, Nat.reduceSub, Nat.reduceMul, Nat.reduceLT, Nat.reduceMod, Nat.reduceDiv, Nat.reduceEqDiff, Nat.reduceBEq, Nat.reduceLeDiff, ↓reduceIte, reduceCtorEq, Int.reduceAdd, Int.reduceSub, Int.reduceLT, Int.reduceLE, Int.reduceBEq, Int.reduceEq, Int.reduceToNat, w_blt_t, w_blt_f, w_ble_t, w_ble_f, w_beq_t, w_beq_f, w_ilt_t, w_ilt_f, w_ile_t, w_ile_f, w_ieq_t, w_ieq_f, w_idx, w_ite, w_push_eq, w_push_ne, w_set_eq, w_set_ne, w_bset_eq, w_bset_ne, w_of_get, w_i64, Blk.putA_short, and_self, Nat.add_eq, Nat.reduceLeDiff, Nat.le_refl, Nat.le_add_right]
theorem drop_any {h : Heap} {R W : Set'} {bp : Nat} {L : PL} {S : PS} (hp : PoolAt h bp L S) (w : WF S) (hR : ∀ b, R b) (hWf : W L.fb) (hWu : W L.ub) (k : Int) :
    SF Try.prog 13 [.ptr (some (bp, 0)), .int .i64 k] h R W fun v h' => ∃ S', S'.n = S.n ∧ S'.na = S.na ∧ S'.qu = S.qu ∧ WF S' ∧ PoolAt h' bp L S' := by
  by_cases ho : Owned S k
  · obtain ⟨h0, h1, h2⟩ := ho
    obtain ⟨i, rfl⟩ := Int.eq_ofNat_of_zero_le h0
    have hi : i < S.n := by omega
    have h2 : S.ho i ≠ 0 := h2
    have hb := w.ho i hi
    by_cases hl : S.ho i = 1
    · obtain ⟨ha0, ha1⟩ := w.ow i hi h2
      obtain ⟨a, ha⟩ := Int.eq_ofNat_of_zero_le ha0
      have ha1 : a < S.na := by omega
      refine (drop_last hp (hR _) (hR _) (hR _) hWf hWu i a hi ha1 ha hl (w.us_pos hi h2 ha ha1)).mono ?_
      rintro v h' ⟨rfl, hq⟩
      exact ⟨(S.setHo i 0).setUs a (S.us a - 1), rfl, rfl, rfl, w.free1 hi h2 ha ha1, hq⟩
    · refine (drop_more hp (hR _) (hR _) hWf i hi (by omega)).mono ?_
      rintro v h' ⟨rfl, hq⟩
      exact ⟨S.setHo i (S.ho i - 1), rfl, rfl, rfl, w.setHo hi h2 (by omega) (by omega), hq⟩
  · refine (drop_no hp (hR _) (hR _) k ho).mono ?_
    rintro v h' ⟨rfl, rfl⟩
    exact ⟨S, rfl, rfl, rfl, w, hp⟩
end Go.Proofs.Ytfgdpgagcnelpaa
