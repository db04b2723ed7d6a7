/- CapsGone: what a Revoke, or a Drop, takes away. -/
import Derived.Test.YtehgjkopobkbmaaLW
set_option linter.unusedVariables false
set_option linter.unusedSimpArgs false
set_option linter.unusedSimpArgs false
set_option maxRecDepth 100000
set_option linter.unusedVariables false
set_option linter.unusedSimpArgs false
namespace Go.Proofs.Ytehgjkopobkbmaa
open Go Go.Vm
open Classical
theorem Own.same {n0 : Nat} {h h' : Heap} {v : V} {l : List V} {e : TypeId} (ho : Own n0 h v l e) (hk : ∀ b, n0 ≤ b → b < h.n → h'.get b = h.get b) : Own n0 h' v l e := by
  rcases ho with ⟨rfl, rfl | ⟨b, c, rfl, h1, hb, hr⟩⟩ | ⟨b, x, c, h0, rfl, h1, hb, hs⟩
  · exact .inl ⟨rfl, .inl rfl⟩
  · exact .inl ⟨rfl, .inr ⟨b, c, rfl, h1, (hk _ h1 (Heap.lt_of_get hb)).trans hb, hr⟩⟩
  · exact .inr ⟨b, x, c, h0, rfl, h1, (hk _ h1 (Heap.lt_of_get hb)).trans hb, hs⟩
structure GI (T : CS) : Prop where
  w : WF T
  ok : ∀ c ∈ T.L, okA c.ac
theorem GI.add {T : CS} (z : GI T) {c : Cp} (hl : T.last < 1000000) (hp : 0 ≤ c.par ∧ c.par ≤ T.last) (ha : okA c.ac) : GI (addT T c) := by
  have w1 := z.w.add (c := c) hp hl
  revert w1
  unfold addT
  split
  · intro _; exact z
  intro w1
  refine ⟨w1, fun d hd => ?_⟩
  rcases List.mem_append.1 hd with hd | hd
  · exact z.ok d hd
  · simp at hd; subst hd; exact ha
theorem GI.sub {T : CS} (z : GI T) (f : Cp → Bool) : GI ⟨T.L.filter f, T.last⟩ := ⟨z.w.filter f, fun c hc => z.ok c (List.mem_filter.1 hc).1⟩
theorem GI.under {T : CS} (z : GI T) (hl : T.last < 1000000) (a id to rt need : Int) : GI (underT T a id to rt need) := by
  unfold underT
  split
  · exact z
  rename_i h0
  split
  · exact z
  rename_i h1
  split
  · exact z
  obtain ⟨c, hc, _⟩ := mine_zero (Decidable.not_not.1 h1)
  obtain ⟨hcm, hci⟩ := findC_some hc
  have := z.w.ids c hcm
  exact z.add hl (show 0 ≤ id ∧ id ≤ T.last by omega) (show okA to from Decidable.byContradiction fun h => h0 fun h' => h h'.1)
theorem GI.one {T : CS} (z : GI T) (hl : T.last < 1000000) (s : St) : GI (oneT T s) := by
  unfold oneT
  split
  · unfold rootT
    split
    · rename_i h
      have := z.w.last
      exact z.add hl (show 0 ≤ (0 : Int) ∧ (0 : Int) ≤ T.last by omega) h.1
    · exact z
  split
  · exact z.under hl _ _ _ _ _
  split
  · exact z.under hl _ _ _ _ _
  split
  · unfold revT; split
    · exact z.sub _
    · exact z
  split
  · unfold dropT; split
    · exact (z.sub _).sub _
    · exact z
  · exact z
theorem GI.start : GI ⟨[], 0⟩ := ⟨WI.start.w, fun c hc => (by cases hc)⟩
theorem ap_45 : apT Try.prog 45 45 = some (2, 1, 8) := by kernel_rfl
/-- What is derived of id, among so many. -/
noncomputable def unds (T : CS) (id : Int) (p : Nat) : List Cp := (T.L.take p).filter fun x => decide (Un T.L id x.id)
noncomputable def undV (T : CS) (id : Int) (p : Nat) : List V := idsV (unds T id p)
theorem unds_snoc {T : CS} {id : Int} {p : Nat} {c : Cp} (h : T.L[p]? = some c) : unds T id (p + 1) = if Un T.L id c.id then unds T id p ++ [c] else unds T id p := by
  unfold unds
  rw [take_snoc' h, List.filter_append]
  by_cases hu : Un T.L id c.id
  · simp [hu]
  · simp [hu]
theorem filter_count {α : Type} (p : α → Bool) : ∀ l : List α, (l.filter p).length + (l.filter fun x => !p x).length = l.length
  | [] => rfl
  | x :: l => by
    have := filter_count p l
    rw [List.filter_cons, List.filter_cons]
    cases p x <;> simp <;> omega
theorem unds_count (T : CS) (id : Int) : ((unds T id T.L.length).length : Int) = (T.L.length : Int) - (gone T.L id).length := by
  unfold unds gone
  rw [List.take_length]
  have := filter_count (fun x : Cp => decide (Un T.L id x.id)) T.L
  have e : (T.L.filter fun x => !decide (Un T.L id x.id)) = T.L.filter fun x => decide (¬ Un T.L id x.id) := by
    apply List.filter_congr; intro x _; simp
  rw [e] at this
  omega
theorem gone_gone {T : CS} (w : WF T) (id : Int) : gone (gone T.L id) id = gone T.L id := by
  refine List.filter_eq_self.2 ?_
  intro c hc
  obtain ⟨hcl, hcu⟩ := mem_gone.1 hc
  refine decide_eq_true fun hu => hcu ?_
  exact hu.mono fun d hd => (mem_gone.1 hd).1
theorem gone_self {T : CS} (w : WF T) {c : Cp} (hc : c ∈ T.L) : c ∈ gone T.L c.id := mem_gone.2 ⟨hc, fun hu => by have := hu.gt fun d hd => (w.par d hd).2; omega⟩
theorem gone_find {T : CS} (w : WF T) {id : Int} {c : Cp} (h : findC T.L id = some c) : findC (gone T.L id) id = some c := by
  obtain ⟨hc, hi⟩ := findC_some h
  unfold gone
  rw [findC_filter w.asc, h]
  simp only []
  rw [if_pos]
  exact decide_eq_true fun hu => by rw [hi] at hu; have := hu.gt fun d hd => (w.par d hd).2; omega
theorem gone_none {T : CS} (w : WF T) {id : Int} {c : Cp} (hc : c ∈ unds T id T.L.length) : findC (gone T.L id) c.id = none := by
  unfold unds at hc
  rw [List.take_length] at hc
  obtain ⟨hcl, hcu⟩ := List.mem_filter.1 hc
  unfold gone
  rw [findC_filter w.asc, findC_mem w.asc hcl]
  simp only []
  rw [if_neg]
  simp at hcu ⊢
  exact hcu
def cfst : LC → LC
  | .seq a _ => a
  | c => c
def csnd : LC → LC
  | .seq _ b => b
  | _ => .skip
def cblk : LC → LC
  | .block _ c => c
  | c => c
noncomputable def ir5_t : LC := (csnd (csnd (csnd (csnd (csnd (csnd ir5))))))
noncomputable def ir5_e : LC := (csnd (csnd (csnd (csnd (csnd (csnd (csnd (csnd (csnd (csnd (csnd (csnd ir5))))))))))))
theorem ir5_t_split : ir5_t = (.seq (cfst (csnd (csnd (csnd (csnd (csnd (csnd ir5))))))) (.seq (cfst (csnd (csnd (csnd (csnd (csnd (csnd (csnd ir5)))))))) (.seq (cfst (csnd (csnd (csnd (csnd (csnd (csnd (csnd (csnd ir5))))))))) (.seq (cfst (csnd (csnd (csnd (csnd (csnd (csnd (csnd (csnd (csnd ir5)))))))))) (.seq (cfst (csnd (csnd (csnd (csnd (csnd (csnd (csnd (csnd (csnd (csnd ir5))))))))))) (.seq (cfst (csnd (csnd (csnd (csnd (csnd (csnd (csnd (csnd (csnd (csnd (csnd ir5)))))))))))) ir5_e)))))) := rfl
theorem ir5_split : ir5 = (.seq (cfst ir5) (.seq (cfst (csnd ir5)) (.seq (cfst (csnd (csnd ir5))) (.seq (cfst (csnd (csnd (csnd ir5)))) (.seq (cfst (csnd (csnd (csnd (csnd ir5))))) (.seq (cfst (csnd (csnd (csnd (csnd (csnd ir5)))))) ir5_t)))))) := rfl
set_option maxHeartbeats 4000000 in
theorem gone_end {H H1 g : Heap} {T : CS} {x u m : Nat} {id : Int} {itself : Bool} {l : List Cp} (nH : H1.n = H.n + 2) (bI : H1.get H.n = some (O.cells (Blk.of [V.int IntKind.i64 id]) 2)) (bH : H1.get (H.n + 1) = some (O.cells (Blk.of [V.bool false]) 4)) (d : OW H1 x (H1.n + 1) H1.n T g) (w : WF T) (hl : ∀ c ∈ l, findC T.L c.id = none) (hll : l.length ≤ 1000) (hid : (findC T.L id).isNone = itself)
    (hu : ∃ c lv, g.get u = some (.cells c 45) ∧ c.size = 1 ∧ c.get 0 = lv ∧ LR g (fun _ => True) lv (idsV l)) (hm' : g.get m = some (.deferred true)) (hmn : H1.n ≤ m) {tr : Tr V}
    (u2 : tr.get 2 = some (.bool itself)) (u4 : tr.get 4 = some (.ptr (some (H.n, 0)))) (u6 : tr.get 6 = some (.ptr (some (H.n + 1, 0)))) (u7 : tr.get 7 = some (.ptr (some (x, 0)))) (u11 : tr.get 11 = some (.ptr (some (u, 0)))) (u16 : tr.get 16 = some (.int .i64 l.length)) (u17 : tr.get 17 = some (.int .i64 0)) :
    GO ⟨Try.prog, true⟩ (fun _ => True) (fun b => H.n ≤ b ∨ WH H b) none (Vm.Fin ⟨Try.prog, true⟩ (fun _ => True) (fun b => H.n ≤ b ∨ WH H b) [ResultVar.cell 6 4] fun v _ => v = V.bool true) [.code ir5_e] ⟨⟨143, tr⟩, [m]⟩ g := by
  have hgt := d.t.lt
  have hH1g : H1.n ≤ g.n := by omega
  simp -implicitDefEqProofs (disch := (first | omega | (simp -implicitDefEqProofs only [Heap.n_push, Heap.n_set, Blk.size_set, Blk.size_puts, Blk.size_putA, w_of_size, w_rep_size, List.length_cons, List.length_nil, ne_eq] <;> omega) | fail)) only [go_sem, Nat.reduceAdd, Nat.reduceSub, Nat.reduceMul, Nat.reduceLT, Nat.reduceMod, Nat.reduceDiv, Nat.reduceEqDiff, Nat.reduceBEq, Nat.reduceLeDiff, ↓reduceIte, reduceCtorEq, Int.reduceAdd, Int.reduceSub, Int.reduceLT, Int.reduceLE, Int.reduceBEq, Int.reduceEq, Int.reduceToNat, ir5_e, ir5, csnd]
  refine GLoop.inv hm (fun k f g' => f.mks = [m] ∧ f.tm.n = 143 ∧ f.tm.get 2 = some (.bool itself) ∧ f.tm.get 4 = some (.ptr (some (H.n, 0))) ∧ f.tm.get 6 = some (.ptr (some (H.n + 1, 0))) ∧ f.tm.get 7 = some (.ptr (some (x, 0))) ∧ f.tm.get 11 = some (.ptr (some (u, 0))) ∧ f.tm.get 16 = some (.int .i64 l.length) ∧ f.tm.get 17 = some (.int .i64 0) ∧ g.n ≤ g'.n ∧ (∀ b, b < g.n → g'.get b = g.get b) ∧ ∃ i : Nat, i + k = l.length ∧ f.tm.get 18 = some (.int .i64 i)) l.length ?_ ?_
  · exact ⟨rfl, rfl, by simp -implicitDefEqProofs (disch := (first | omega | (simp -implicitDefEqProofs only [Heap.n_push, Heap.n_set, Blk.size_set, Blk.size_puts, Blk.size_putA, w_of_size, w_rep_size, List.length_cons, List.length_nil, ne_eq] <;> omega) | fail)) only [go_sem, Nat.reduceAdd, Nat.reduceSub, Nat.reduceMul, Nat.reduceLT, Nat.reduceMod, Nat.reduceDiv, Nat.reduceEqDiff, Nat.reduceBEq, Nat.reduceLeDiff, ↓reduceIte, reduceCtorEq, Int.reduceAdd, Int.reduceSub, Int.reduceLT, Int.reduceLE, Int.reduceBEq, Int.reduceEq, Int.reduceToNat, u2], by simp -implicitDefEqProofs (disch := (first | omega | (simp -implicitDefEqProofs only [Heap.n_push, Heap.n_set, Blk.size_set, Blk.size_puts, Blk.size_putA, w_of_size, w_rep_size, List.length_cons, List.length_nil, ne_eq] <;> omega) | fail)) only [go_sem, Nat.reduceAdd, Nat.reduceSub, Nat.reduceMul, Nat.reduceLT, Nat.reduceMod, Nat.reduceDiv, Nat.reduceEqDiff, Nat.reduceBEq, Nat.reduceLeDiff, ↓reduceIte, reduceCtorEq, Int.reduceAdd, Int.reduceSub, Int.reduceLT, Int.reduceLE, Int.reduceBEq, Int.reduceEq, Int.reduceToNat, u4], by simp -implicitDefEqProofs (disch := (first | omega | (simp -implicitDefEqProofs only [Heap.n_push, Heap.n_set, Blk.size_set, Blk.size_puts, Blk.size_putA, w_of_size, w_rep_size, List.length_cons, List.length_nil, ne_eq] <;> omega) | fail)) only [go_sem, Nat.reduceAdd, Nat.reduceSub, Nat.reduceMul, Nat.reduceLT, Nat.reduceMod, Nat.reduceDiv, Nat.reduceEqDiff, Nat.reduceBEq, Nat.reduceLeDiff, ↓reduceIte, reduceCtorEq, Int.reduceAdd, Int.reduceSub, Int.reduceLT, Int.reduceLE, Int.reduceBEq, Int.reduceEq, Int.reduceToNat, u6], by simp -implicitDefEqProofs (disch := (first | omega | (simp -implicitDefEqProofs only [Heap.n_push, Heap.n_set, Blk.size_set, Blk.size_puts, Blk.size_putA, w_of_size, w_rep_size, List.length_cons, List.length_nil, ne_eq] <;> omega) | fail)) only [go_sem, Nat.reduceAdd, Nat.reduceSub, Nat.reduceMul, Nat.reduceLT, Nat.reduceMod, Nat.reduceDiv, Nat.reduceEqDiff, Nat.reduceBEq, Nat.reduceLeDiff, ↓reduceIte, reduceCtorEq, Int.reduceAdd, Int.reduceSub, Int.reduceLT, Int.reduceLE, Int.reduceBEq, Int.reduceEq, Int.reduceToNat, u7], by simp -implicitDefEqProofs (disch := (first | omega | (simp -implicitDefEqProofs only [Heap.n_push, Heap.n_set, Blk.size_set, Blk.size_puts, Blk.size_putA, w_of_size, w_rep_size, List.length_cons, List.length_nil, ne_eq] <;> omega) | fail)) only [go_sem, Nat.reduceAdd, Nat.reduceSub, Nat.reduceMul, Nat.reduceLT, Nat.reduceMod, Nat.reduceDiv, Nat.reduceEqDiff, Nat.reduceBEq, Nat.reduceLeDiff, ↓reduceIte, reduceCtorEq, Int.reduceAdd, Int.reduceSub, Int.reduceLT, Int.reduceLE, Int.reduceBEq, Int.reduceEq, Int.reduceToNat, u11], by simp -implicitDefEqProofs (disch := (first | omega | (simp -implicitDefEqProofs only [Heap.n_push, Heap.n_set, Blk.size_set, Blk.size_puts, Blk.size_putA, w_of_size, w_rep_size, List.length_cons, List.length_nil, ne_eq] <;> omega) | fail)) only [go_sem, Nat.reduceAdd, Nat.reduceSub, Nat.reduceMul, Nat.reduceLT, Nat.reduceMod, Nat.reduceDiv, Nat.reduceEqDiff, Nat.reduceBEq, Nat.reduceLeDiff, ↓reduceIte, reduceCtorEq, Int.reduceAdd, Int.reduceSub, Int.reduceLT, Int.reduceLE, Int.reduceBEq, Int.reduceEq, Int.reduceToNat, u16], by simp -implicitDefEqProofs (disch := (first | omega | (simp -implicitDefEqProofs only [Heap.n_push, Heap.n_set, Blk.size_set, Blk.size_puts, Blk.size_putA, w_of_size, w_rep_size, List.length_cons, List.length_nil, ne_eq] <;> omega) | fail)) only [go_sem, Nat.reduceAdd, Nat.reduceSub, Nat.reduceMul, Nat.reduceLT, Nat.reduceMod, Nat.reduceDiv, Nat.reduceEqDiff, Nat.reduceBEq, Nat.reduceLeDiff, ↓reduceIte, reduceCtorEq, Int.reduceAdd, Int.reduceSub, Int.reduceLT, Int.reduceLE, Int.reduceBEq, Int.reduceEq, Int.reduceToNat, u17], Nat.le_refl _, fun _ _ => rfl, 0, by omega, by simp -implicitDefEqProofs (disch := (first | omega | (simp -implicitDefEqProofs only [Heap.n_push, Heap.n_set, Blk.size_set, Blk.size_puts, Blk.size_putA, w_of_size, w_rep_size, List.length_cons, List.length_nil, ne_eq] <;> omega) | fail)) only [go_sem, Nat.reduceAdd, Nat.reduceSub, Nat.reduceMul, Nat.reduceLT, Nat.reduceMod, Nat.reduceDiv, Nat.reduceEqDiff, Nat.reduceBEq, Nat.reduceLeDiff, ↓reduceIte, reduceCtorEq, Int.reduceAdd, Int.reduceSub, Int.reduceLT, Int.reduceLE, Int.reduceBEq, Int.reduceEq, Int.reduceToNat]; rfl⟩
  clear u2 u4 u6 u7 u11 u16 u17
  clear tr
  rintro k ⟨⟨n', tr⟩, mks⟩ g1 ⟨hmk, hn', u2, u4, u6, u7, u11, u16, u17, n1, k1, i, hi, u18⟩
  simp only [Tm.get_mk] at hmk hn' u2 u4 u6 u7 u11 u16 u17 u18
  subst hmk hn'
  have d1 := d.keep k1 hH1g
  obtain ⟨cu, lv, q1, q2, q3, q4⟩ := hu
  have q1' := (k1 _ (Heap.lt_of_get q1)).trans q1
  have q4' := q4.old k1
  have hlen := q4'.lenV Try.underlying45
  have hil : (idsV l).length = l.length := by simp [idsV]
  rw [hil] at hlen
  obtain ⟨cx, p1, p2, p3⟩ := d1.x
  by_cases hil2 : i < l.length
  · have hcp : l[i]? = some (l[i]) := List.getElem?_eq_getElem hil2
    generalize hc0 : l[i] = cp at hcp
    obtain ⟨bi, oi, capi, exi, ci, cei, rfl, hbi, x1, x2, x3⟩ := q4'.get (i := i) (by omega)
    rw [hil] at x2 hlen q3
    have x3 : ci.get (oi + i) = .int .i64 cp.id := by
      rw [x3, idsV, List.getD_eq_getElem?_getD, List.getElem?_map, hcp]; rfl
    have hnone := hl cp (List.mem_of_getElem? hcp)
    have he : ofE T cp.id = 6 := by rw [ofE, hnone]; rfl
    simp -implicitDefEqProofs (disch := (first | omega | (simp -implicitDefEqProofs only [Heap.n_push, Heap.n_set, Blk.size_set, Blk.size_puts, Blk.size_putA, w_of_size, w_rep_size, List.length_cons, List.length_nil, ne_eq] <;> omega) | fail)) only [go_sem, Nat.reduceAdd, Nat.reduceSub, Nat.reduceMul, Nat.reduceLT, Nat.reduceMod, Nat.reduceDiv, Nat.reduceEqDiff, Nat.reduceBEq, Nat.reduceLeDiff, ↓reduceIte, reduceCtorEq, Int.reduceAdd, Int.reduceSub, Int.reduceLT, Int.reduceLE, Int.reduceBEq, Int.reduceEq, Int.reduceToNat, ir5_l1, u2, u4, u6, u7, u11, u16, u17, u18, q1', q2, q3, p1, p2, p3, x1, x2, x3, undefV, ↓hlen]
    refine GCallD.of (R' := fun b => b = H1.n + 1 ∨ b = H1.n) (W' := fun _ => False) (of_ok d1.t (fun _ h => h) cp.id) ?_
    rintro v g3 ⟨rfl, n3, k3⟩
    obtain ⟨g4, e4, n4, _, k4⟩ := stC g3 (ofC T cp.id)
    simp -implicitDefEqProofs (disch := (first | omega | (simp -implicitDefEqProofs only [Heap.n_push, Heap.n_set, Blk.size_set, Blk.size_puts, Blk.size_putA, w_of_size, w_rep_size, List.length_cons, List.length_nil, ne_eq] <;> omega) | fail)) only [go_sem, Nat.reduceAdd, Nat.reduceSub, Nat.reduceMul, Nat.reduceLT, Nat.reduceMod, Nat.reduceDiv, Nat.reduceEqDiff, Nat.reduceBEq, Nat.reduceLeDiff, ↓reduceIte, reduceCtorEq, Int.reduceAdd, Int.reduceSub, Int.reduceLT, Int.reduceLE, Int.reduceBEq, Int.reduceEq, Int.reduceToNat, Cp.v, Cp.l, e4, he, u2, u4, u6, u7, u11, u16, u17, u18, undefV]
    refine ⟨?_, ?_, ?_⟩
    · simp only [List.not_mem_nil, or_false, false_or, and_false, false_and, false_implies, implies_true, not_false_eq_true, List.mem_singleton, List.mem_cons, and_true, true_and, forall_const]
      all_goals (try and_intros)
      all_goals (intros; omega)
    · exact ⟨fun _ _ h => h.elim, fun _ => .inl (by omega)⟩
    · exact ⟨k - 1, by omega, by omega, fun b hb => by rw [k4 b (by omega), k3 b (by omega)]; exact k1 b hb, i + 1, by omega, by simp⟩
  · obtain rfl : i = l.length := by omega
    have hbI1 : g1.get H.n = some (O.cells (Blk.of [V.int IntKind.i64 id]) 2) := by rw [d1.old _ (by omega)]; exact bI
    simp -implicitDefEqProofs (disch := (first | omega | (simp -implicitDefEqProofs only [Heap.n_push, Heap.n_set, Blk.size_set, Blk.size_puts, Blk.size_putA, w_of_size, w_rep_size, List.length_cons, List.length_nil, ne_eq] <;> omega) | fail)) only [go_sem, Nat.reduceAdd, Nat.reduceSub, Nat.reduceMul, Nat.reduceLT, Nat.reduceMod, Nat.reduceDiv, Nat.reduceEqDiff, Nat.reduceBEq, Nat.reduceLeDiff, ↓reduceIte, reduceCtorEq, Int.reduceAdd, Int.reduceSub, Int.reduceLT, Int.reduceLE, Int.reduceBEq, Int.reduceEq, Int.reduceToNat, ir5_l1, u2, u4, u6, u7, u11, u16, u17, u18, q1', q2, q3, p1, p2, p3, hbI1, undefV, ↓hlen]
    refine GCall.of (of_ok d1.t (fun _ _ => trivial) id).any ?_
    rintro v g3 ⟨rfl, n3, k3⟩
    obtain ⟨g4, e4, n4, _, k4⟩ := stC g3 (ofC T id)
    have q1'' : g4.get u = some (.cells cu 45) := by have := Heap.lt_of_get q1'; rw [k4 _ (by omega), k3 _ this]; exact q1'
    have hbH : g4.get (H.n + 1) = some (O.cells (Blk.of [V.bool false]) 4) := by rw [k4 _ (by omega), k3 _ (by omega), d1.old _ (by omega)]; exact bH
    have hmg : g4.get m = some (.deferred true) := by have := Heap.lt_of_get hm'; rw [k4 _ (by omega), k3 _ (by omega), k1 _ this]; exact hm'
    have hml := Heap.lt_of_get hmg
    have hne : m ≠ H.n + 1 := by omega
    have hne' : H.n + 1 ≠ m := by omega
    have hlt4 : H.n + 1 < g4.n := by omega
    have he : ofE T id = if itself then 6 else 0 := by
      rw [ofE, ← hid]
      cases findC T.L id <;> rfl
    cases itself with
    | true =>
      simp -implicitDefEqProofs (disch := (first | omega | (simp -implicitDefEqProofs only [Heap.n_push, Heap.n_set, Blk.size_set, Blk.size_puts, Blk.size_putA, w_of_size, w_rep_size, List.length_cons, List.length_nil, ne_eq] <;> omega) | fail)) only [go_sem, Nat.reduceAdd, Nat.reduceSub, Nat.reduceMul, Nat.reduceLT, Nat.reduceMod, Nat.reduceDiv, Nat.reduceEqDiff, Nat.reduceBEq, Nat.reduceLeDiff, ↓reduceIte, reduceCtorEq, Int.reduceAdd, Int.reduceSub, Int.reduceLT, Int.reduceLE, Int.reduceBEq, Int.reduceEq, Int.reduceToNat, Cp.v, Cp.l, e4, he, u2, u4, u6, u7, u11, u16, u17, u18, q1'', q2, q3, undefV, ↓hlen]
      refine ⟨.inl (by omega), GCall.of (known_ok _ _ _).any ?_⟩
      rintro v g4 ⟨rfl, rfl⟩
      simp -implicitDefEqProofs (disch := (first | omega | (simp -implicitDefEqProofs only [Heap.n_push, Heap.n_set, Blk.size_set, Blk.size_puts, Blk.size_putA, w_of_size, w_rep_size, List.length_cons, List.length_nil, ne_eq] <;> omega) | fail)) only [go_sem, Nat.reduceAdd, Nat.reduceSub, Nat.reduceMul, Nat.reduceLT, Nat.reduceMod, Nat.reduceDiv, Nat.reduceEqDiff, Nat.reduceBEq, Nat.reduceLeDiff, ↓reduceIte, reduceCtorEq, Int.reduceAdd, Int.reduceSub, Int.reduceLT, Int.reduceLE, Int.reduceBEq, Int.reduceEq, Int.reduceToNat, u6, hbH, hmg, undefV]
      all_goals first | trivial | exact .inl (by omega)
    | false =>
      simp -implicitDefEqProofs (disch := (first | omega | (simp -implicitDefEqProofs only [Heap.n_push, Heap.n_set, Blk.size_set, Blk.size_puts, Blk.size_putA, w_of_size, w_rep_size, List.length_cons, List.length_nil, ne_eq] <;> omega) | fail)) only [go_sem, Nat.reduceAdd, Nat.reduceSub, Nat.reduceMul, Nat.reduceLT, Nat.reduceMod, Nat.reduceDiv, Nat.reduceEqDiff, Nat.reduceBEq, Nat.reduceLeDiff, ↓reduceIte, reduceCtorEq, Int.reduceAdd, Int.reduceSub, Int.reduceLT, Int.reduceLE, Int.reduceBEq, Int.reduceEq, Int.reduceToNat, Cp.v, Cp.l, e4, he, u2, u4, u6, u7, u11, u16, u17, u18, q1'', q2, q3, undefV, ↓hlen]
      refine ⟨.inl (by omega), GCall.of (known_ok _ _ _).any ?_⟩
      rintro v g4 ⟨rfl, rfl⟩
      simp -implicitDefEqProofs (disch := (first | omega | (simp -implicitDefEqProofs only [Heap.n_push, Heap.n_set, Blk.size_set, Blk.size_puts, Blk.size_putA, w_of_size, w_rep_size, List.length_cons, List.length_nil, ne_eq] <;> omega) | fail)) only [go_sem, Nat.reduceAdd, Nat.reduceSub, Nat.reduceMul, Nat.reduceLT, Nat.reduceMod, Nat.reduceDiv, Nat.reduceEqDiff, Nat.reduceBEq, Nat.reduceLeDiff, ↓reduceIte, reduceCtorEq, Int.reduceAdd, Int.reduceSub, Int.reduceLT, Int.reduceLE, Int.reduceBEq, Int.reduceEq, Int.reduceToNat, u6, hbH, hmg, undefV]
      all_goals first | trivial | exact .inl (by omega)
set_option maxHeartbeats 4000000 in
theorem gone_tail {H H1 g : Heap} {T : CS} {ca : Cp} {x y : Nat} {id : Int} {itself : Bool} (nH : H1.n = H.n + 2) (bI : H1.get H.n = some (O.cells (Blk.of [V.int IntKind.i64 id]) 2)) (bH : H1.get (H.n + 1) = some (O.cells (Blk.of [V.bool false]) 4)) (d : OW H1 x (H1.n + 1) H1.n T g) (z : GI T) (hl : T.last ≤ 1000) (hf : findC T.L id = some ca) (hc : CpAt g y ca) (hy : H1.n + 2 ≤ y) (hx : H1.n + 2 ≤ x) {tr : Tr V}
    (u2 : tr.get 2 = some (.bool itself)) (u4 : tr.get 4 = some (.ptr (some (H.n, 0)))) (u6 : tr.get 6 = some (.ptr (some (H.n + 1, 0)))) (u7 : tr.get 7 = some (.ptr (some (x, 0)))) (u9 : tr.get 9 = some (.ptr (some (y, 0)))) :
    GO ⟨Try.prog, true⟩ (fun _ => True) (fun b => H.n ≤ b ∨ WH H b) none (Vm.Fin ⟨Try.prog, true⟩ (fun _ => True) (fun b => H.n ≤ b ∨ WH H b) [ResultVar.cell 6 4] fun v _ => v = V.bool true) [.code ir5_t] ⟨⟨143, tr⟩, []⟩ g := by
  have hgt := d.t.lt
  have hH1g : H1.n ≤ g.n := by omega
  obtain ⟨bx, x1, x2, x3⟩ := d.x
  have hwl := z.w.last
  have hwn := z.w.len
  obtain ⟨hfm, hfi⟩ := findC_some hf
  obtain ⟨g1, e1, n1, b1, k1⟩ : ∃ g1, g.push (O.cells (Blk.of [V.slice none 0 0 true]) 45) = g1 ∧ g1.n = g.n + 1 ∧ g1.get g.n = some (.cells (Blk.of [V.slice none 0 0 true]) 45) ∧ ∀ b, b < g.n → g1.get b = g.get b := ⟨_, rfl, by simp, w_push_eq rfl _, fun b hb => w_push_ne (by omega) _⟩
  have d1 := d.keep k1 hH1g
  obtain ⟨bx', x1', x2', x3'⟩ := d1.x
  rw [ir5_t_split]
  simp -implicitDefEqProofs (disch := (first | omega | (simp -implicitDefEqProofs only [Heap.n_push, Heap.n_set, Blk.size_set, Blk.size_puts, Blk.size_putA, w_of_size, w_rep_size, List.length_cons, List.length_nil, ne_eq] <;> omega) | fail)) only [go_sem, Nat.reduceAdd, Nat.reduceSub, Nat.reduceMul, Nat.reduceLT, Nat.reduceMod, Nat.reduceDiv, Nat.reduceEqDiff, Nat.reduceBEq, Nat.reduceLeDiff, ↓reduceIte, reduceCtorEq, Int.reduceAdd, Int.reduceSub, Int.reduceLT, Int.reduceLE, Int.reduceBEq, Int.reduceEq, Int.reduceToNat, ir5, cfst, csnd, e1, u2, u4, u6, u7, u9, x1', x2', x3']
  refine GCall.of (all_ok d1.t z.w (fun _ _ => trivial) (-1)).any ?_
  rintro v ga ⟨rfl, na, ⟨cb, lv, a1, a2, a3, a4⟩, ka⟩
  rw [allL_neg (by omega)] at a4
  simp -implicitDefEqProofs (disch := (first | omega | (simp -implicitDefEqProofs only [Heap.n_push, Heap.n_set, Blk.size_set, Blk.size_puts, Blk.size_putA, w_of_size, w_rep_size, List.length_cons, List.length_nil, ne_eq] <;> omega) | fail)) only [go_sem, Nat.reduceAdd, Nat.reduceSub, Nat.reduceMul, Nat.reduceLT, Nat.reduceMod, Nat.reduceDiv, Nat.reduceEqDiff, Nat.reduceBEq, Nat.reduceLeDiff, ↓reduceIte, reduceCtorEq, Int.reduceAdd, Int.reduceSub, Int.reduceLT, Int.reduceLE, Int.reduceBEq, Int.reduceEq, Int.reduceToNat, u2, u4, u6, u7, u9]
  have da := d1.keep ka (by omega)
  have hlx := Heap.lt_of_get x1
  have hca : CpAt ga y ca := by
    obtain ⟨s, s0, r⟩ := hc
    have := Heap.lt_of_get s0
    exact ⟨s, by rw [ka y (by omega), k1 y this]; exact s0, r⟩
  have hba : ga.get g.n = some (.cells (Blk.of [V.slice none 0 0 true]) 45) := by rw [ka _ (by omega)]; exact b1
  refine range40 (P := 58) (X := 13) (cb := ir5_b0) (S := fun b => H.n ≤ b ∧ b < ga.n ∧ b ≠ g.n) (L := T.L) (fun b => b = g.n)
    (fun p g' => ga.n ≤ g'.n ∧ (∀ b, b < ga.n → b ≠ g.n → g'.get b = ga.get b) ∧ ∃ c lv, g'.get g.n = some (.cells c 45) ∧ c.size = 1 ∧ c.ro = false ∧ c.get 0 = lv ∧ Own (ga.n + 2) g' lv (undV T id p) 2) (fun e g' => False)
    (by simp -implicitDefEqProofs (disch := (first | omega | (simp -implicitDefEqProofs only [Heap.n_push, Heap.n_set, Blk.size_set, Blk.size_puts, Blk.size_putA, w_of_size, w_rep_size, List.length_cons, List.length_nil, ne_eq] <;> omega) | fail)) only [go_sem, Nat.reduceAdd, Nat.reduceSub, Nat.reduceMul, Nat.reduceLT, Nat.reduceMod, Nat.reduceDiv, Nat.reduceEqDiff, Nat.reduceBEq, Nat.reduceLeDiff, ↓reduceIte, reduceCtorEq, Int.reduceAdd, Int.reduceSub, Int.reduceLT, Int.reduceLE, Int.reduceBEq, Int.reduceEq, Int.reduceToNat]) ⟨cb, a1, a2, a3⟩ (LRs.mono a4 (fun b hb h => ⟨by omega, hb, by omega⟩)) (fun _ h => h.2.1) (by omega) (fun b hb => trivial) (fun b hb => .inl (by rcases hb with h | h <;> omega)) ⟨Nat.le_refl _, fun _ _ _ => rfl, _, _, hba, rfl, rfl, rfl, Own.nil _ _ _⟩
    (fun p g1 g2 ⟨i1, i2, c, lv, i3, i4, i5, i6, i7⟩ j1 j2 => ⟨by omega, fun b hb hne => by rw [j2 b (by omega) (by omega) (by omega)]; exact i2 b hb hne, c, lv, by rw [j2 _ (Heap.lt_of_get i3) (by omega) (by omega)]; exact i3, i4, i5, i6, Own.same i7 fun b h1 h2 => j2 b h2 (by omega) (by omega)⟩)
    (fun e g1 g2 h _ _ => h.elim) (fun p g1 ⟨i1, i2, _⟩ => ⟨i1, fun b hb => i2 b hb.2.1 hb.2.2⟩) ir5_a0_eq ir5_b0_eq (by simp) (by show 58 < 143; omega) (by show 13 < 143; omega) ?_ ?_ (fun e g h => h.elim)
  · rintro R' W' Q' p c' g4 sb x' rr w1 w2 hcp ⟨j1, j2, cu, lu, j3, j4, j5, j6, j7⟩ n4 hx' hdm ho s0 s1 s2 q0 q1 q2 q3 q4 q5 q6 hn hex
    have rrT : ∀ b, R' b := fun b => rr b trivial
    have rrx := rrT x'
    have rr7 := rrT x
    have rr4 := rrT H.n
    have x1'' := (j2 x (by omega) (by omega)).trans ((ka _ (by omega)).trans x1')
    have hbI4 : g4.get H.n = some (O.cells (Blk.of [V.int IntKind.i64 id]) 2) := by rw [j2 _ (by omega) (by omega), da.old _ (by omega)]; exact bI
    have t4 : CapAt g4 (H1.n + 1) H1.n T := da.t.same fun b hb => j2 b (by rcases hb with rfl | rfl <;> omega) (by rcases hb with rfl | rfl <;> omega)
    simp -implicitDefEqProofs (disch := (first | omega | (simp -implicitDefEqProofs only [Heap.n_push, Heap.n_set, Blk.size_set, Blk.size_puts, Blk.size_putA, w_of_size, w_rep_size, List.length_cons, List.length_nil, ne_eq] <;> omega) | fail)) only [go_sem, Nat.reduceAdd, Nat.reduceSub, Nat.reduceMul, Nat.reduceLT, Nat.reduceMod, Nat.reduceDiv, Nat.reduceEqDiff, Nat.reduceBEq, Nat.reduceLeDiff, ↓reduceIte, reduceCtorEq, Int.reduceAdd, Int.reduceSub, Int.reduceLT, Int.reduceLE, Int.reduceBEq, Int.reduceEq, Int.reduceToNat, ir5_b0, u7, u4, s0, s1, q0, rrx, rr7, rr4, x1'', x2', x3', hbI4]
    refine GCall.of (over_ok t4 z.w rrT id c'.id).any ?_
    rintro v g5 ⟨rfl, n5, k5⟩
    have hcm := List.mem_of_getElem? hcp
    have hfc := findC_mem z.w.asc hcm
    have hoe : overE T id c'.id = 0 := by rw [overE, hf, hfc]; rfl
    have hov : overV T id c'.id = decide (c'.id = id ∨ Un T.L id c'.id) := by rw [overV, hf, hfc]; rfl
    have s0' := (k5 x' (by omega)).trans s0
    have j3' := (k5 g.n (by omega)).trans j3
    have hbI5 := (k5 H.n (by omega)).trans hbI4
    have j7' := j7.old k5
    have hww := w2 g.n rfl
    have rrg := rrT g.n
    have hgu : ∀ l', l' = undV T id (p + 1) → ∀ (g8 : Heap) (cu' : Blk) (lu' : V), g5.n ≤ g8.n → (∀ b, b < ga.n → b ≠ g.n → g8.get b = g5.get b) → g8.get ga.n = g5.get ga.n → g8.get (ga.n + 1) = g5.get (ga.n + 1) → g8.get g.n = some (.cells cu' 45) → cu'.size = 1 → cu'.ro = false → cu'.get 0 = lu' → Own (ga.n + 2) g8 lu' l' 2 → ∀ f, Q' .norm f g8 := fun l' hl' g8 cu' lu' m1 m2 m3 m4 m5 m6 m7 m8 m9 f =>
      hn f g8 (by omega) (by rw [m3, k5 _ (by omega)]) (by rw [m4, k5 _ (by omega)]) ⟨by omega, fun b hb hne => by rw [m2 b hb hne, k5 b (by omega), j2 b hb hne], cu', lu', m5, m6, m7, m8, by rw [← hl']; exact m9⟩
    by_cases hu : Un T.L id c'.id
    · have hgtid := hu.gt fun e he => (z.w.par e he).2
      have hne : (c'.id != id) = true := by simp; omega
      rw [hov, decide_eq_true (.inr hu), hoe]
      have hlu : (undV T id p).length ≤ T.L.length := by
        unfold undV idsV unds
        rw [List.length_map]
        have := List.length_filter_le (fun x : Cp => decide (Un T.L id x.id)) (T.L.take p)
        rw [List.length_take] at this
        omega
      obtain ⟨v7, g7, r7, w7, hap, o7, m7, k7, hw7, kw7, ht7⟩ := app_own (n0 := ga.n + 2) (h := g5.push (.cells (Blk.of [.int .i64 c'.id]) 2)) (v := lu) (x := .slice (some (g5.n, 0)) 1 1 true) (l := undV T id p) (news := [.int .i64 c'.id]) (e := 2) (bytes := 8) (j7'.old fun b hb => w_push_ne (by omega) _) (by simp; omega) rfl (first_one (e := 2) (w_push_eq rfl _)) rfl (by simp only [List.length_cons, List.length_nil]; omega) (by simp only [List.length_cons, List.length_nil]; omega)
      have har : allB R' r7 := allB_of fun b _ => rrT b
      have haw : allB W' w7 := allB_of fun b hb => w1 b (hw7 b hb)
      have hcv := o7.lr.cells
      have hon := o7.lr.one
      have m7' : g5.n + 1 ≤ g7.n := by simpa using m7
      have h7u : g7.get g.n = some (.cells cu 45) := by rw [k7 _ (by omega), w_push_ne (by omega)]; exact j3'
      have hlt7 := Heap.lt_of_get h7u
      simp -implicitDefEqProofs (disch := (first | omega | (simp -implicitDefEqProofs only [Heap.n_push, Heap.n_set, Blk.size_set, Blk.size_puts, Blk.size_putA, w_of_size, w_rep_size, List.length_cons, List.length_nil, ne_eq] <;> omega) | fail)) only [go_sem, Nat.reduceAdd, Nat.reduceSub, Nat.reduceMul, Nat.reduceLT, Nat.reduceMod, Nat.reduceDiv, Nat.reduceEqDiff, Nat.reduceBEq, Nat.reduceLeDiff, ↓reduceIte, reduceCtorEq, Int.reduceAdd, Int.reduceSub, Int.reduceLT, Int.reduceLE, Int.reduceBEq, Int.reduceEq, Int.reduceToNat, u4, s0', s1, q0, hbI5, hne, j3', j4, j5, j6, appendV_of ap_45, hap, har, haw, ↓hcv, ↓hon, h7u, rrx, rr4, rrg, hww, undefV]
      have hsn : undV T id p ++ [.int .i64 c'.id] = undV T id (p + 1) := by unfold undV; rw [unds_snoc hcp, if_pos hu]; simp [idsV]
      exact hgu _ hsn _ (cu.set 0 v7) v7 (by rw [Heap.n_set]; omega) (fun b hb hne => by rw [w_set_ne hlt7 hne, k7 b (by omega), w_push_ne (by omega)]) (by rw [w_set_ne hlt7 (by omega), k7 _ (by omega), w_push_ne (by omega)]) (by rw [w_set_ne hlt7 (by omega), k7 _ (by omega), w_push_ne (by omega)]) (w_set_eq hlt7 rfl _) (by rw [Blk.size_set]; exact j4) (by rw [Blk.ro_set]; exact j5) (w_bset_eq rfl _) (Own.same o7 fun b h1 h2 => w_set_ne hlt7 (by omega) _) _
    · have hsk : (overV T id c'.id = true ∧ c'.id = id) ∨ (overV T id c'.id = false) := by
        rw [hov]
        by_cases hi : c'.id = id
        · exact .inl ⟨decide_eq_true (.inl hi), hi⟩
        · exact .inr (decide_eq_false (by rintro (h | h); exact hi h; exact hu h))
      have hun : undV T id p = undV T id (p + 1) := by unfold undV; rw [unds_snoc hcp, if_neg hu]
      rcases hsk with ⟨h1, h2⟩ | h1
      · rw [h1, hoe]
        simp -implicitDefEqProofs (disch := (first | omega | (simp -implicitDefEqProofs only [Heap.n_push, Heap.n_set, Blk.size_set, Blk.size_puts, Blk.size_putA, w_of_size, w_rep_size, List.length_cons, List.length_nil, ne_eq] <;> omega) | fail)) only [go_sem, Nat.reduceAdd, Nat.reduceSub, Nat.reduceMul, Nat.reduceLT, Nat.reduceMod, Nat.reduceDiv, Nat.reduceEqDiff, Nat.reduceBEq, Nat.reduceLeDiff, ↓reduceIte, reduceCtorEq, Int.reduceAdd, Int.reduceSub, Int.reduceLT, Int.reduceLE, Int.reduceBEq, Int.reduceEq, Int.reduceToNat, u4, s0', s1, q0, hbI5, h2, rrx, rr4, undefV]
        exact hgu _ hun g5 cu lu (Nat.le_refl _) (fun _ _ _ => rfl) rfl rfl j3' j4 j5 j6 j7' _
      · rw [h1, hoe]
        simp -implicitDefEqProofs (disch := (first | omega | (simp -implicitDefEqProofs only [Heap.n_push, Heap.n_set, Blk.size_set, Blk.size_puts, Blk.size_putA, w_of_size, w_rep_size, List.length_cons, List.length_nil, ne_eq] <;> omega) | fail)) only [go_sem, Nat.reduceAdd, Nat.reduceSub, Nat.reduceMul, Nat.reduceLT, Nat.reduceMod, Nat.reduceDiv, Nat.reduceEqDiff, Nat.reduceBEq, Nat.reduceLeDiff, ↓reduceIte, reduceCtorEq, Int.reduceAdd, Int.reduceSub, Int.reduceLT, Int.reduceLE, Int.reduceBEq, Int.reduceEq, Int.reduceToNat, u4, s0', s1, q0, hbI5, rrx, rr4, undefV]
        exact hgu _ hun g5 cu lu (Nat.le_refl _) (fun _ _ _ => rfl) rfl rfl j3' j4 j5 j6 j7' _
  · rintro g6 ⟨j1, j2, cu, lu, j3, j4, j5, j6, j7⟩ n6 d6
    have dx : OW H1 x (H1.n + 1) H1.n T g6 := by
      obtain ⟨c, q1, q2⟩ := da.x
      exact ⟨da.n, fun b hb => by rw [j2 b (by omega) (by omega)]; exact da.old b hb, da.t.same fun b hb => j2 b (by rcases hb with rfl | rfl <;> omega) (by rcases hb with rfl | rfl <;> omega), c, by rw [j2 x (by omega) (by omega)]; exact q1, q2⟩
    have hyl : y < g.n := by obtain ⟨s, s0, _⟩ := hc; exact Heap.lt_of_get s0
    obtain ⟨sy, y0, y1, y2, y3, y4, y5, _⟩ : CpAt g6 y ca := by
      obtain ⟨s, s0, r⟩ := hca
      exact ⟨s, by rw [j2 y (by omega) (by omega)]; exact s0, r⟩
    have hbI6 : g6.get H.n = some (O.cells (Blk.of [V.int IntKind.i64 id]) 2) := by rw [dx.old _ (by omega)]; exact bI
    obtain ⟨cx, p1, p2, p3⟩ := dx.x
    have hac : okA ca.ac := z.ok ca hfm
    have hme : mineE T ca.ac id = 0 := by rw [mineE, if_neg (fun h => h hac), hf]; exact if_pos rfl
    have hrT : revT T ca.ac id = ⟨gone T.L id, T.last⟩ := if_pos hme
    have hrN : revN T ca.ac id = (T.L.length : Int) - (gone T.L id).length := if_pos hme
    have hcnt := unds_count T id
    simp -implicitDefEqProofs (disch := (first | omega | (simp -implicitDefEqProofs only [Heap.n_push, Heap.n_set, Blk.size_set, Blk.size_puts, Blk.size_putA, w_of_size, w_rep_size, List.length_cons, List.length_nil, ne_eq] <;> omega) | fail)) only [go_sem, Nat.reduceAdd, Nat.reduceSub, Nat.reduceMul, Nat.reduceLT, Nat.reduceMod, Nat.reduceDiv, Nat.reduceEqDiff, Nat.reduceBEq, Nat.reduceLeDiff, ↓reduceIte, reduceCtorEq, Int.reduceAdd, Int.reduceSub, Int.reduceLT, Int.reduceLE, Int.reduceBEq, Int.reduceEq, Int.reduceToNat, u2, u4, u6, u7, u9, p1, p2, p3, y0, y1, y5, hbI6]
    refine GCall.of (((revoke_ok (R := fun _ => True) (W := fun b => b = H1.n + 1 ∨ b = H1.n) dx.t z.w (fun _ => trivial) (.inr rfl) ca.ac id).any.kept).foot (fun _ h => h) (fun b hb => .inl (by rcases hb with rfl | rfl <;> omega))) ?_
    rintro v g7 ⟨⟨rfl, ht7⟩, vf7⟩
    rw [hrT] at ht7
    rw [hrN, hme]
    have n7 := vf7.n
    have z7 : GI ⟨gone T.L id, T.last⟩ := z.sub _
    have d7 := dx.set vf7 ht7 (by omega)
    have hmk7 : g7.get ga.n = some (.deferred true) := by rw [vf7.get _ (by omega) (by rintro (h | h) <;> omega)]; exact d6
    have o7 : Own (ga.n + 2) g7 lu (undV T id T.L.length) 2 := Own.same j7 fun b h1 h2 => vf7.get b h2 (by rintro (h | h) <;> omega)
    have hu7 : ∃ c lv, g7.get g.n = some (.cells c 45) ∧ c.size = 1 ∧ c.get 0 = lv ∧ LR g7 (fun _ => True) lv (idsV (unds T id T.L.length)) := by
      exact ⟨cu, lu, by rw [vf7.get _ (by omega) (by rintro (h | h) <;> omega)]; exact j3, j4, j6, o7.lr.mono fun _ _ _ => trivial⟩
    have hlu : (unds T id T.L.length).length ≤ T.L.length := by
      unfold unds
      have := List.length_filter_le (fun x : Cp => decide (Un T.L id x.id)) (T.L.take T.L.length)
      rw [List.length_take] at this
      omega
    have hy7 : g7.get y = some (.cells sy 40) := by rw [vf7.get _ (by omega) (by rintro (h | h) <;> omega)]; exact y0
    have hbI7 : g7.get H.n = some (O.cells (Blk.of [V.int IntKind.i64 id]) 2) := by rw [d7.old _ (by omega)]; exact bI
    obtain ⟨cx', p1', p2', p3'⟩ := d7.x
    have hgf := gone_find z.w hf
    rw [← hcnt]
    cases itself with
    | false =>
      simp -implicitDefEqProofs (disch := (first | omega | (simp -implicitDefEqProofs only [Heap.n_push, Heap.n_set, Blk.size_set, Blk.size_puts, Blk.size_putA, w_of_size, w_rep_size, List.length_cons, List.length_nil, ne_eq] <;> omega) | fail)) only [go_sem, Nat.reduceAdd, Nat.reduceSub, Nat.reduceMul, Nat.reduceLT, Nat.reduceMod, Nat.reduceDiv, Nat.reduceEqDiff, Nat.reduceBEq, Nat.reduceLeDiff, ↓reduceIte, reduceCtorEq, Int.reduceAdd, Int.reduceSub, Int.reduceLT, Int.reduceLE, Int.reduceBEq, Int.reduceEq, Int.reduceToNat, u2, u4, u6, u7, u9]
      exact gone_end (itself := false) nH bI bH d7 z7.w (fun c hc => gone_none z.w hc) (by omega) (by rw [hgf]; rfl) hu7 hmk7 (by omega) (by simp -implicitDefEqProofs (disch := (first | omega | (simp -implicitDefEqProofs only [Heap.n_push, Heap.n_set, Blk.size_set, Blk.size_puts, Blk.size_putA, w_of_size, w_rep_size, List.length_cons, List.length_nil, ne_eq] <;> omega) | fail)) only [go_sem, Nat.reduceAdd, Nat.reduceSub, Nat.reduceMul, Nat.reduceLT, Nat.reduceMod, Nat.reduceDiv, Nat.reduceEqDiff, Nat.reduceBEq, Nat.reduceLeDiff, ↓reduceIte, reduceCtorEq, Int.reduceAdd, Int.reduceSub, Int.reduceLT, Int.reduceLE, Int.reduceBEq, Int.reduceEq, Int.reduceToNat, u2]) (by simp -implicitDefEqProofs (disch := (first | omega | (simp -implicitDefEqProofs only [Heap.n_push, Heap.n_set, Blk.size_set, Blk.size_puts, Blk.size_putA, w_of_size, w_rep_size, List.length_cons, List.length_nil, ne_eq] <;> omega) | fail)) only [go_sem, Nat.reduceAdd, Nat.reduceSub, Nat.reduceMul, Nat.reduceLT, Nat.reduceMod, Nat.reduceDiv, Nat.reduceEqDiff, Nat.reduceBEq, Nat.reduceLeDiff, ↓reduceIte, reduceCtorEq, Int.reduceAdd, Int.reduceSub, Int.reduceLT, Int.reduceLE, Int.reduceBEq, Int.reduceEq, Int.reduceToNat, u4]) (by simp -implicitDefEqProofs (disch := (first | omega | (simp -implicitDefEqProofs only [Heap.n_push, Heap.n_set, Blk.size_set, Blk.size_puts, Blk.size_putA, w_of_size, w_rep_size, List.length_cons, List.length_nil, ne_eq] <;> omega) | fail)) only [go_sem, Nat.reduceAdd, Nat.reduceSub, Nat.reduceMul, Nat.reduceLT, Nat.reduceMod, Nat.reduceDiv, Nat.reduceEqDiff, Nat.reduceBEq, Nat.reduceLeDiff, ↓reduceIte, reduceCtorEq, Int.reduceAdd, Int.reduceSub, Int.reduceLT, Int.reduceLE, Int.reduceBEq, Int.reduceEq, Int.reduceToNat, u6]) (by simp -implicitDefEqProofs (disch := (first | omega | (simp -implicitDefEqProofs only [Heap.n_push, Heap.n_set, Blk.size_set, Blk.size_puts, Blk.size_putA, w_of_size, w_rep_size, List.length_cons, List.length_nil, ne_eq] <;> omega) | fail)) only [go_sem, Nat.reduceAdd, Nat.reduceSub, Nat.reduceMul, Nat.reduceLT, Nat.reduceMod, Nat.reduceDiv, Nat.reduceEqDiff, Nat.reduceBEq, Nat.reduceLeDiff, ↓reduceIte, reduceCtorEq, Int.reduceAdd, Int.reduceSub, Int.reduceLT, Int.reduceLE, Int.reduceBEq, Int.reduceEq, Int.reduceToNat, u7]) (by simp -implicitDefEqProofs (disch := (first | omega | (simp -implicitDefEqProofs only [Heap.n_push, Heap.n_set, Blk.size_set, Blk.size_puts, Blk.size_putA, w_of_size, w_rep_size, List.length_cons, List.length_nil, ne_eq] <;> omega) | fail)) only [go_sem, Nat.reduceAdd, Nat.reduceSub, Nat.reduceMul, Nat.reduceLT, Nat.reduceMod, Nat.reduceDiv, Nat.reduceEqDiff, Nat.reduceBEq, Nat.reduceLeDiff, ↓reduceIte, reduceCtorEq, Int.reduceAdd, Int.reduceSub, Int.reduceLT, Int.reduceLE, Int.reduceBEq, Int.reduceEq, Int.reduceToNat]) (by simp -implicitDefEqProofs (disch := (first | omega | (simp -implicitDefEqProofs only [Heap.n_push, Heap.n_set, Blk.size_set, Blk.size_puts, Blk.size_putA, w_of_size, w_rep_size, List.length_cons, List.length_nil, ne_eq] <;> omega) | fail)) only [go_sem, Nat.reduceAdd, Nat.reduceSub, Nat.reduceMul, Nat.reduceLT, Nat.reduceMod, Nat.reduceDiv, Nat.reduceEqDiff, Nat.reduceBEq, Nat.reduceLeDiff, ↓reduceIte, reduceCtorEq, Int.reduceAdd, Int.reduceSub, Int.reduceLT, Int.reduceLE, Int.reduceBEq, Int.reduceEq, Int.reduceToNat]) (by simp -implicitDefEqProofs (disch := (first | omega | (simp -implicitDefEqProofs only [Heap.n_push, Heap.n_set, Blk.size_set, Blk.size_puts, Blk.size_putA, w_of_size, w_rep_size, List.length_cons, List.length_nil, ne_eq] <;> omega) | fail)) only [go_sem, Nat.reduceAdd, Nat.reduceSub, Nat.reduceMul, Nat.reduceLT, Nat.reduceMod, Nat.reduceDiv, Nat.reduceEqDiff, Nat.reduceBEq, Nat.reduceLeDiff, ↓reduceIte, reduceCtorEq, Int.reduceAdd, Int.reduceSub, Int.reduceLT, Int.reduceLE, Int.reduceBEq, Int.reduceEq, Int.reduceToNat])
    | true =>
      have hme7 : mineE ⟨gone T.L id, T.last⟩ ca.ac id = 0 := by rw [mineE, if_neg (fun h => h hac), hgf]; exact if_pos rfl
      have hdT : dropT ⟨gone T.L id, T.last⟩ ca.ac id = ⟨(gone T.L id).filter fun c => decide (c.id ≠ id), T.last⟩ := by
        rw [dropT, if_pos hme7]
        show (⟨(gone (gone T.L id) id).filter _, T.last⟩ : CS) = _
        rw [gone_gone z.w]
      have hdN : dropN ⟨gone T.L id, T.last⟩ ca.ac id = 1 := by
        rw [dropN, if_pos hme7]
        show ((gone T.L id).length : Int) - (gone (gone T.L id) id).length + 1 = 1
        rw [gone_gone z.w]; omega
      simp -implicitDefEqProofs (disch := (first | omega | (simp -implicitDefEqProofs only [Heap.n_push, Heap.n_set, Blk.size_set, Blk.size_puts, Blk.size_putA, w_of_size, w_rep_size, List.length_cons, List.length_nil, ne_eq] <;> omega) | fail)) only [go_sem, Nat.reduceAdd, Nat.reduceSub, Nat.reduceMul, Nat.reduceLT, Nat.reduceMod, Nat.reduceDiv, Nat.reduceEqDiff, Nat.reduceBEq, Nat.reduceLeDiff, ↓reduceIte, reduceCtorEq, Int.reduceAdd, Int.reduceSub, Int.reduceLT, Int.reduceLE, Int.reduceBEq, Int.reduceEq, Int.reduceToNat, u2, u4, u6, u7, u9, p1', p2', p3', hy7, y1, y5, hbI7]
      refine GCall.of (((drop_ok (R := fun _ => True) (W := fun b => b = H1.n + 1 ∨ b = H1.n) d7.t z7.w (fun _ => trivial) (.inr rfl) ca.ac id).any.kept).foot (fun _ h => h) (fun b hb => .inl (by rcases hb with rfl | rfl <;> omega))) ?_
      rintro v g8 ⟨⟨rfl, ht8⟩, vf8⟩
      rw [hdT] at ht8
      rw [hdN, hme7]
      have n8 := vf8.n
      have z8 : GI ⟨(gone T.L id).filter fun c => decide (c.id ≠ id), T.last⟩ := z7.sub _
      have d8 := d7.set vf8 ht8 (by omega)
      have q1 : g8.get g.n = some (.cells cu 45) := by rw [vf8.get _ (by omega) (by rintro (h | h) <;> omega), vf7.get _ (by omega) (by rintro (h | h) <;> omega)]; exact j3
      have o8 : Own (ga.n + 2) g8 lu (undV T id T.L.length) 2 := Own.same o7 fun b h1 h2 => vf8.get b h2 (by rintro (h | h) <;> omega)
      have hu8 : ∃ c lv, g8.get g.n = some (.cells c 45) ∧ c.size = 1 ∧ c.get 0 = lv ∧ LR g8 (fun _ => True) lv (idsV (unds T id T.L.length)) := ⟨cu, lu, q1, j4, j6, o8.lr.mono fun _ _ _ => trivial⟩
      have hlen := o8.lr.lenV Try.underlying45
      have hil : (undV T id T.L.length).length = (unds T id T.L.length).length := by simp [undV, idsV]
      rw [hil] at hlen
      have hmk8 : g8.get ga.n = some (.deferred true) := by rw [vf8.get _ (by omega) (by rintro (h | h) <;> omega)]; exact hmk7
      have hnn : (1 : Int) + ((unds T id T.L.length).length : Int) - 1 = (unds T id T.L.length).length := by omega
      simp -implicitDefEqProofs (disch := (first | omega | (simp -implicitDefEqProofs only [Heap.n_push, Heap.n_set, Blk.size_set, Blk.size_puts, Blk.size_putA, w_of_size, w_rep_size, List.length_cons, List.length_nil, ne_eq] <;> omega) | fail)) only [go_sem, Nat.reduceAdd, Nat.reduceSub, Nat.reduceMul, Nat.reduceLT, Nat.reduceMod, Nat.reduceDiv, Nat.reduceEqDiff, Nat.reduceBEq, Nat.reduceLeDiff, ↓reduceIte, reduceCtorEq, Int.reduceAdd, Int.reduceSub, Int.reduceLT, Int.reduceLE, Int.reduceBEq, Int.reduceEq, Int.reduceToNat, u2, u4, u6, u7, u9, q1, j4, j6, ↓hlen, hnn]
      have hfil : ∀ k, findC ((gone T.L id).filter fun c => decide (c.id ≠ id)) k = if k = id then none else findC (gone T.L id) k := fun k => by
        rw [findC_filter z7.w.asc]
        show (match findC (gone T.L id) k with | some c => if decide (c.id ≠ id) = true then some c else none | none => none) = _
        cases hq : findC (gone T.L id) k with
        | none => simp
        | some c =>
          have := (findC_some hq).2
          by_cases hk : k = id
          · subst hk; simp [this]
          · have hne : c.id ≠ id := by omega
            simp [hne, hk]
      exact gone_end (itself := true) nH bI bH d8 z8.w (fun c hc => by
        show findC ((gone T.L id).filter fun c => decide (c.id ≠ id)) c.id = none
        rw [hfil, gone_none z.w hc]; split <;> rfl) (by omega) (by
        show (findC ((gone T.L id).filter fun c => decide (c.id ≠ id)) id).isNone = true
        rw [hfil, if_pos rfl]; rfl) hu8 hmk8 (by omega) (by simp -implicitDefEqProofs (disch := (first | omega | (simp -implicitDefEqProofs only [Heap.n_push, Heap.n_set, Blk.size_set, Blk.size_puts, Blk.size_putA, w_of_size, w_rep_size, List.length_cons, List.length_nil, ne_eq] <;> omega) | fail)) only [go_sem, Nat.reduceAdd, Nat.reduceSub, Nat.reduceMul, Nat.reduceLT, Nat.reduceMod, Nat.reduceDiv, Nat.reduceEqDiff, Nat.reduceBEq, Nat.reduceLeDiff, ↓reduceIte, reduceCtorEq, Int.reduceAdd, Int.reduceSub, Int.reduceLT, Int.reduceLE, Int.reduceBEq, Int.reduceEq, Int.reduceToNat, u2]) (by simp -implicitDefEqProofs (disch := (first | omega | (simp -implicitDefEqProofs only [Heap.n_push, Heap.n_set, Blk.size_set, Blk.size_puts, Blk.size_putA, w_of_size, w_rep_size, List.length_cons, List.length_nil, ne_eq] <;> omega) | fail)) only [go_sem, Nat.reduceAdd, Nat.reduceSub, Nat.reduceMul, Nat.reduceLT, Nat.reduceMod, Nat.reduceDiv, Nat.reduceEqDiff, Nat.reduceBEq, Nat.reduceLeDiff, ↓reduceIte, reduceCtorEq, Int.reduceAdd, Int.reduceSub, Int.reduceLT, Int.reduceLE, Int.reduceBEq, Int.reduceEq, Int.reduceToNat, u4]) (by simp -implicitDefEqProofs (disch := (first | omega | (simp -implicitDefEqProofs only [Heap.n_push, Heap.n_set, Blk.size_set, Blk.size_puts, Blk.size_putA, w_of_size, w_rep_size, List.length_cons, List.length_nil, ne_eq] <;> omega) | fail)) only [go_sem, Nat.reduceAdd, Nat.reduceSub, Nat.reduceMul, Nat.reduceLT, Nat.reduceMod, Nat.reduceDiv, Nat.reduceEqDiff, Nat.reduceBEq, Nat.reduceLeDiff, ↓reduceIte, reduceCtorEq, Int.reduceAdd, Int.reduceSub, Int.reduceLT, Int.reduceLE, Int.reduceBEq, Int.reduceEq, Int.reduceToNat, u6]) (by simp -implicitDefEqProofs (disch := (first | omega | (simp -implicitDefEqProofs only [Heap.n_push, Heap.n_set, Blk.size_set, Blk.size_puts, Blk.size_putA, w_of_size, w_rep_size, List.length_cons, List.length_nil, ne_eq] <;> omega) | fail)) only [go_sem, Nat.reduceAdd, Nat.reduceSub, Nat.reduceMul, Nat.reduceLT, Nat.reduceMod, Nat.reduceDiv, Nat.reduceEqDiff, Nat.reduceBEq, Nat.reduceLeDiff, ↓reduceIte, reduceCtorEq, Int.reduceAdd, Int.reduceSub, Int.reduceLT, Int.reduceLE, Int.reduceBEq, Int.reduceEq, Int.reduceToNat, u7]) (by simp -implicitDefEqProofs (disch := (first | omega | (simp -implicitDefEqProofs only [Heap.n_push, Heap.n_set, Blk.size_set, Blk.size_puts, Blk.size_putA, w_of_size, w_rep_size, List.length_cons, List.length_nil, ne_eq] <;> omega) | fail)) only [go_sem, Nat.reduceAdd, Nat.reduceSub, Nat.reduceMul, Nat.reduceLT, Nat.reduceMod, Nat.reduceDiv, Nat.reduceEqDiff, Nat.reduceBEq, Nat.reduceLeDiff, ↓reduceIte, reduceCtorEq, Int.reduceAdd, Int.reduceSub, Int.reduceLT, Int.reduceLE, Int.reduceBEq, Int.reduceEq, Int.reduceToNat]) (by simp -implicitDefEqProofs (disch := (first | omega | (simp -implicitDefEqProofs only [Heap.n_push, Heap.n_set, Blk.size_set, Blk.size_puts, Blk.size_putA, w_of_size, w_rep_size, List.length_cons, List.length_nil, ne_eq] <;> omega) | fail)) only [go_sem, Nat.reduceAdd, Nat.reduceSub, Nat.reduceMul, Nat.reduceLT, Nat.reduceMod, Nat.reduceDiv, Nat.reduceEqDiff, Nat.reduceBEq, Nat.reduceLeDiff, ↓reduceIte, reduceCtorEq, Int.reduceAdd, Int.reduceSub, Int.reduceLT, Int.reduceLE, Int.reduceBEq, Int.reduceEq, Int.reduceToNat]) (by simp -implicitDefEqProofs (disch := (first | omega | (simp -implicitDefEqProofs only [Heap.n_push, Heap.n_set, Blk.size_set, Blk.size_puts, Blk.size_putA, w_of_size, w_rep_size, List.length_cons, List.length_nil, ne_eq] <;> omega) | fail)) only [go_sem, Nat.reduceAdd, Nat.reduceSub, Nat.reduceMul, Nat.reduceLT, Nat.reduceMod, Nat.reduceDiv, Nat.reduceEqDiff, Nat.reduceBEq, Nat.reduceLeDiff, ↓reduceIte, reduceCtorEq, Int.reduceAdd, Int.reduceSub, Int.reduceLT, Int.reduceLE, Int.reduceBEq, Int.reduceEq, Int.reduceToNat])
set_option maxHeartbeats 4000000 in
theorem gone_law {H : Heap} {v0 : V} {m0 : Nat} {S0 : Nat → St} {id : Int} {itself : Bool} (hv0 : StepsV H v0 m0 S0) : SF ⟨Try.prog, true⟩ 5 [v0, .int .i64 id, .bool itself] H (fun _ => True) (WH H) fun v _ => v = .bool true := by
  have hl0 := hv0.lenV
  have hm0 := hv0.len
  refine SF.go hm Try.func5 ir5_eq ?_
  rw [ir5_split]
  by_cases h0 : m0 ≤ 60
  · simp -implicitDefEqProofs (disch := (first | omega | (simp -implicitDefEqProofs only [Heap.n_push, Heap.n_set, Blk.size_set, Blk.size_puts, Blk.size_putA, w_of_size, w_rep_size, List.length_cons, List.length_nil, ne_eq] <;> omega) | fail)) only [go_sem, Nat.reduceAdd, Nat.reduceSub, Nat.reduceMul, Nat.reduceLT, Nat.reduceMod, Nat.reduceDiv, Nat.reduceEqDiff, Nat.reduceBEq, Nat.reduceLeDiff, ↓reduceIte, reduceCtorEq, Int.reduceAdd, Int.reduceSub, Int.reduceLT, Int.reduceLE, Int.reduceBEq, Int.reduceEq, Int.reduceToNat, ir5, cfst, csnd, undefV, ↓hl0]
    refine GCall.of (new_ok).any ?_
    rintro v g1 ⟨rfl, ha1, n1, k1⟩
    obtain ⟨H1, eH, nH, bI, bH, kH⟩ : ∃ H1, ((H.push (O.cells (Blk.of [V.int IntKind.i64 id]) 2)).push (O.cells (Blk.of [V.bool false]) 4)) = H1 ∧ H1.n = H.n + 2 ∧ H1.get H.n = some (O.cells (Blk.of [V.int IntKind.i64 id]) 2) ∧ H1.get (H.n + 1) = some (O.cells (Blk.of [V.bool false]) 4) ∧ ∀ b, b < H.n → H1.get b = H.get b := ⟨_, rfl, by simp, by simp -implicitDefEqProofs (disch := (first | omega | (simp -implicitDefEqProofs only [Heap.n_push, Heap.n_set, Blk.size_set, Blk.size_puts, Blk.size_putA, w_of_size, w_rep_size, List.length_cons, List.length_nil, ne_eq] <;> omega) | fail)) only [go_sem, Nat.reduceAdd, Nat.reduceSub, Nat.reduceMul, Nat.reduceLT, Nat.reduceMod, Nat.reduceDiv, Nat.reduceEqDiff, Nat.reduceBEq, Nat.reduceLeDiff, ↓reduceIte, reduceCtorEq, Int.reduceAdd, Int.reduceSub, Int.reduceLT, Int.reduceLE, Int.reduceBEq, Int.reduceEq, Int.reduceToNat], by simp -implicitDefEqProofs (disch := (first | omega | (simp -implicitDefEqProofs only [Heap.n_push, Heap.n_set, Blk.size_set, Blk.size_puts, Blk.size_putA, w_of_size, w_rep_size, List.length_cons, List.length_nil, ne_eq] <;> omega) | fail)) only [go_sem, Nat.reduceAdd, Nat.reduceSub, Nat.reduceMul, Nat.reduceLT, Nat.reduceMod, Nat.reduceDiv, Nat.reduceEqDiff, Nat.reduceBEq, Nat.reduceLeDiff, ↓reduceIte, reduceCtorEq, Int.reduceAdd, Int.reduceSub, Int.reduceLT, Int.reduceLE, Int.reduceBEq, Int.reduceEq, Int.reduceToNat], fun b hb => by simp -implicitDefEqProofs (disch := (first | omega | (simp -implicitDefEqProofs only [Heap.n_push, Heap.n_set, Blk.size_set, Blk.size_puts, Blk.size_putA, w_of_size, w_rep_size, List.length_cons, List.length_nil, ne_eq] <;> omega) | fail)) only [go_sem, Nat.reduceAdd, Nat.reduceSub, Nat.reduceMul, Nat.reduceLT, Nat.reduceMod, Nat.reduceDiv, Nat.reduceEqDiff, Nat.reduceBEq, Nat.reduceLeDiff, ↓reduceIte, reduceCtorEq, Int.reduceAdd, Int.reduceSub, Int.reduceLT, Int.reduceLE, Int.reduceBEq, Int.reduceEq, Int.reduceToNat]⟩
    rw [eH] at ha1 n1 k1
    rw [eH]
    simp -implicitDefEqProofs (disch := (first | omega | (simp -implicitDefEqProofs only [Heap.n_push, Heap.n_set, Blk.size_set, Blk.size_puts, Blk.size_putA, w_of_size, w_rep_size, List.length_cons, List.length_nil, ne_eq] <;> omega) | fail)) only [go_sem, Nat.reduceAdd, Nat.reduceSub, Nat.reduceMul, Nat.reduceLT, Nat.reduceMod, Nat.reduceDiv, Nat.reduceEqDiff, Nat.reduceBEq, Nat.reduceLeDiff, ↓reduceIte, reduceCtorEq, Int.reduceAdd, Int.reduceSub, Int.reduceLT, Int.reduceLE, Int.reduceBEq, Int.reduceEq, Int.reduceToNat]
    refine ⟨.inl (by omega), ?_⟩
    obtain ⟨g2, e2, n2, b2, k2⟩ : ∃ g2, ((g1.push (O.cells (Blk.of [V.ptr none]) 24)).set g1.n
        (O.cells ((Blk.of [V.ptr none]).set 0 (V.ptr (some (H1.n + 1, 0)))) 24)) = g2 ∧ g2.n = g1.n + 1 ∧ (∃ c, g2.get g1.n = some (.cells c 24) ∧ c.size = 1 ∧ c.get 0 = .ptr (some (H1.n + 1, 0))) ∧ ∀ b, b < g1.n → g2.get b = g1.get b := ⟨_, rfl, by simp, ⟨_, w_set_eq (by simp) rfl _, rfl, w_bset_eq rfl _⟩, fun b hb => by rw [w_set_ne (by simp) (by omega), w_push_ne (by omega)]⟩
    rw [e2]
    have hd : OW H1 g1.n (H1.n + 1) H1.n ⟨[], 0⟩ g2 := ⟨⟨by omega, by omega, by omega⟩, fun b hb => by rw [k2 b (by omega), k1 b hb], ha1.old k2, b2⟩
    have hxl : g1.n < g2.n := by omega
    refine GLoop.inv hm (fun k f g => f.mks = [] ∧ f.tm.n = 143 ∧ f.tm.get 0 = some v0 ∧ f.tm.get 2 = some (.bool itself) ∧ f.tm.get 4 = some (.ptr (some (H.n, 0))) ∧ f.tm.get 6 = some (.ptr (some (H.n + 1, 0))) ∧ f.tm.get 7 = some (.ptr (some (g1.n, 0))) ∧ ∃ i : Nat, i + k = m0 ∧ f.tm.get 8 = some (.int .i64 i) ∧ ∃ T, OW H1 g1.n (H1.n + 1) H1.n T g ∧ GI T ∧ T.last ≤ i) m0 ?_ ?_
    · exact ⟨rfl, rfl, by simp -implicitDefEqProofs (disch := (first | omega | (simp -implicitDefEqProofs only [Heap.n_push, Heap.n_set, Blk.size_set, Blk.size_puts, Blk.size_putA, w_of_size, w_rep_size, List.length_cons, List.length_nil, ne_eq] <;> omega) | fail)) only [go_sem, Nat.reduceAdd, Nat.reduceSub, Nat.reduceMul, Nat.reduceLT, Nat.reduceMod, Nat.reduceDiv, Nat.reduceEqDiff, Nat.reduceBEq, Nat.reduceLeDiff, ↓reduceIte, reduceCtorEq, Int.reduceAdd, Int.reduceSub, Int.reduceLT, Int.reduceLE, Int.reduceBEq, Int.reduceEq, Int.reduceToNat], by simp -implicitDefEqProofs (disch := (first | omega | (simp -implicitDefEqProofs only [Heap.n_push, Heap.n_set, Blk.size_set, Blk.size_puts, Blk.size_putA, w_of_size, w_rep_size, List.length_cons, List.length_nil, ne_eq] <;> omega) | fail)) only [go_sem, Nat.reduceAdd, Nat.reduceSub, Nat.reduceMul, Nat.reduceLT, Nat.reduceMod, Nat.reduceDiv, Nat.reduceEqDiff, Nat.reduceBEq, Nat.reduceLeDiff, ↓reduceIte, reduceCtorEq, Int.reduceAdd, Int.reduceSub, Int.reduceLT, Int.reduceLE, Int.reduceBEq, Int.reduceEq, Int.reduceToNat], by simp -implicitDefEqProofs (disch := (first | omega | (simp -implicitDefEqProofs only [Heap.n_push, Heap.n_set, Blk.size_set, Blk.size_puts, Blk.size_putA, w_of_size, w_rep_size, List.length_cons, List.length_nil, ne_eq] <;> omega) | fail)) only [go_sem, Nat.reduceAdd, Nat.reduceSub, Nat.reduceMul, Nat.reduceLT, Nat.reduceMod, Nat.reduceDiv, Nat.reduceEqDiff, Nat.reduceBEq, Nat.reduceLeDiff, ↓reduceIte, reduceCtorEq, Int.reduceAdd, Int.reduceSub, Int.reduceLT, Int.reduceLE, Int.reduceBEq, Int.reduceEq, Int.reduceToNat], by simp -implicitDefEqProofs (disch := (first | omega | (simp -implicitDefEqProofs only [Heap.n_push, Heap.n_set, Blk.size_set, Blk.size_puts, Blk.size_putA, w_of_size, w_rep_size, List.length_cons, List.length_nil, ne_eq] <;> omega) | fail)) only [go_sem, Nat.reduceAdd, Nat.reduceSub, Nat.reduceMul, Nat.reduceLT, Nat.reduceMod, Nat.reduceDiv, Nat.reduceEqDiff, Nat.reduceBEq, Nat.reduceLeDiff, ↓reduceIte, reduceCtorEq, Int.reduceAdd, Int.reduceSub, Int.reduceLT, Int.reduceLE, Int.reduceBEq, Int.reduceEq, Int.reduceToNat], by simp -implicitDefEqProofs (disch := (first | omega | (simp -implicitDefEqProofs only [Heap.n_push, Heap.n_set, Blk.size_set, Blk.size_puts, Blk.size_putA, w_of_size, w_rep_size, List.length_cons, List.length_nil, ne_eq] <;> omega) | fail)) only [go_sem, Nat.reduceAdd, Nat.reduceSub, Nat.reduceMul, Nat.reduceLT, Nat.reduceMod, Nat.reduceDiv, Nat.reduceEqDiff, Nat.reduceBEq, Nat.reduceLeDiff, ↓reduceIte, reduceCtorEq, Int.reduceAdd, Int.reduceSub, Int.reduceLT, Int.reduceLE, Int.reduceBEq, Int.reduceEq, Int.reduceToNat], 0, by omega, by simp -implicitDefEqProofs (disch := (first | omega | (simp -implicitDefEqProofs only [Heap.n_push, Heap.n_set, Blk.size_set, Blk.size_puts, Blk.size_putA, w_of_size, w_rep_size, List.length_cons, List.length_nil, ne_eq] <;> omega) | fail)) only [go_sem, Nat.reduceAdd, Nat.reduceSub, Nat.reduceMul, Nat.reduceLT, Nat.reduceMod, Nat.reduceDiv, Nat.reduceEqDiff, Nat.reduceBEq, Nat.reduceLeDiff, ↓reduceIte, reduceCtorEq, Int.reduceAdd, Int.reduceSub, Int.reduceLT, Int.reduceLE, Int.reduceBEq, Int.reduceEq, Int.reduceToNat]; rfl, _, hd, GI.start, Int.le_refl _⟩
    rintro k ⟨⟨n', tr⟩, mks⟩ g ⟨hmk, hn', t0, u2, u4, u6, u7, i, hi, u8, T, d, z, hlast⟩
    simp only [Tm.get_mk] at hmk hn' t0 u2 u4 u6 u7 u8
    subst hmk hn'
    have hgt := d.t.lt
    have hH1g : H1.n ≤ g.n := by omega
    by_cases him : i < m0
    · rcases hv0.at' with ⟨h0', _⟩ | ⟨b, o, cap, c, ce, rfl, hb, hsz, hc⟩
      · omega
      obtain ⟨c0, c1, c2, c3, c4, c5, c6⟩ := hc i him
      have hbl := Heap.lt_of_get hb
      have hb1 : g.get b = some (.cells c ce) := by rw [d.old b (by omega), kH b hbl]; exact hb
      obtain ⟨bx, x1, x2, x3⟩ := d.x
      simp -implicitDefEqProofs (disch := (first | omega | (simp -implicitDefEqProofs only [Heap.n_push, Heap.n_set, Blk.size_set, Blk.size_puts, Blk.size_putA, w_of_size, w_rep_size, List.length_cons, List.length_nil, ne_eq] <;> omega) | fail)) only [go_sem, Nat.reduceAdd, Nat.reduceSub, Nat.reduceMul, Nat.reduceLT, Nat.reduceMod, Nat.reduceDiv, Nat.reduceEqDiff, Nat.reduceBEq, Nat.reduceLeDiff, ↓reduceIte, reduceCtorEq, Int.reduceAdd, Int.reduceSub, Int.reduceLT, Int.reduceLE, Int.reduceBEq, Int.reduceEq, Int.reduceToNat, ir5_l0, t0, u2, u4, u6, u7, u8, hb1, c0, c1, c2, c3, c4, c5, c6, undefV, ↓hl0, x1, x2, x3]
      refine GCallD.of (R' := fun _ => True) (W' := fun b => b = H1.n + 1 ∨ b = H1.n) (one_ok d.t z.w (fun _ => trivial) (fun _ h => h) (S0 i)).kept ?_
      rintro v g3 ⟨ht3, vf3⟩
      have d3 := d.set vf3 ht3 hH1g
      have z3 := z.one (by omega) (S0 i)
      have hl3 := (oneT_last T (S0 i)).2
      simp -implicitDefEqProofs (disch := (first | omega | (simp -implicitDefEqProofs only [Heap.n_push, Heap.n_set, Blk.size_set, Blk.size_puts, Blk.size_putA, w_of_size, w_rep_size, List.length_cons, List.length_nil, ne_eq] <;> omega) | fail)) only [go_sem, Nat.reduceAdd, Nat.reduceSub, Nat.reduceMul, Nat.reduceLT, Nat.reduceMod, Nat.reduceDiv, Nat.reduceEqDiff, Nat.reduceBEq, Nat.reduceLeDiff, ↓reduceIte, reduceCtorEq, Int.reduceAdd, Int.reduceSub, Int.reduceLT, Int.reduceLE, Int.reduceBEq, Int.reduceEq, Int.reduceToNat, t0, u2, u4, u6, u7, u8]
      exact ⟨fun b' _ hb' => .inl (by rcases hb' with rfl | rfl <;> omega), k - 1, by omega, i + 1, by omega, by simp, _, d3, z3, by omega⟩
    · obtain rfl : i = m0 := by omega
      have hbI : g.get H.n = some (O.cells (Blk.of [V.int IntKind.i64 id]) 2) := by rw [d.old _ (by omega)]; exact bI
      have hbH : g.get (H.n + 1) = some (O.cells (Blk.of [V.bool false]) 4) := by rw [d.old _ (by omega)]; exact bH
      obtain ⟨bx, x1, x2, x3⟩ := d.x
      simp -implicitDefEqProofs (disch := (first | omega | (simp -implicitDefEqProofs only [Heap.n_push, Heap.n_set, Blk.size_set, Blk.size_puts, Blk.size_putA, w_of_size, w_rep_size, List.length_cons, List.length_nil, ne_eq] <;> omega) | fail)) only [go_sem, Nat.reduceAdd, Nat.reduceSub, Nat.reduceMul, Nat.reduceLT, Nat.reduceMod, Nat.reduceDiv, Nat.reduceEqDiff, Nat.reduceBEq, Nat.reduceLeDiff, ↓reduceIte, reduceCtorEq, Int.reduceAdd, Int.reduceSub, Int.reduceLT, Int.reduceLE, Int.reduceBEq, Int.reduceEq, Int.reduceToNat, ir5_l0, t0, u2, u4, u6, u7, u8, ↓hl0, hbI, x1, x2, x3]
      refine GCall.of (of_ok d.t (fun _ _ => trivial) id).any ?_
      rintro v g5 ⟨rfl, n5, k5⟩
      obtain ⟨g6, e6, n6, hc6, k6⟩ := stC g5 (ofC T id)
      have d6 := (d.keep k5 hH1g).keep k6 (by omega)
      cases hf : findC T.L id with
      | none =>
        have he : ofE T id = 6 := by rw [ofE, hf]; rfl
        simp -implicitDefEqProofs (disch := (first | omega | (simp -implicitDefEqProofs only [Heap.n_push, Heap.n_set, Blk.size_set, Blk.size_puts, Blk.size_putA, w_of_size, w_rep_size, List.length_cons, List.length_nil, ne_eq] <;> omega) | fail)) only [go_sem, Nat.reduceAdd, Nat.reduceSub, Nat.reduceMul, Nat.reduceLT, Nat.reduceMod, Nat.reduceDiv, Nat.reduceEqDiff, Nat.reduceBEq, Nat.reduceLeDiff, ↓reduceIte, reduceCtorEq, Int.reduceAdd, Int.reduceSub, Int.reduceLT, Int.reduceLE, Int.reduceBEq, Int.reduceEq, Int.reduceToNat, Cp.v, Cp.l, e6, he, undefV, u6, u2]
        refine ⟨.inl (by omega), GCall.of (known_ok _ _ _).any ?_⟩
        rintro v g6 ⟨rfl, rfl⟩
        have hb6 : g6.get (H.n + 1) = some (O.cells (Blk.of [V.bool false]) 4) := by rw [d6.old _ (by omega)]; exact bH
        simp -implicitDefEqProofs (disch := (first | omega | (simp -implicitDefEqProofs only [Heap.n_push, Heap.n_set, Blk.size_set, Blk.size_puts, Blk.size_putA, w_of_size, w_rep_size, List.length_cons, List.length_nil, ne_eq] <;> omega) | fail)) only [go_sem, Nat.reduceAdd, Nat.reduceSub, Nat.reduceMul, Nat.reduceLT, Nat.reduceMod, Nat.reduceDiv, Nat.reduceEqDiff, Nat.reduceBEq, Nat.reduceLeDiff, ↓reduceIte, reduceCtorEq, Int.reduceAdd, Int.reduceSub, Int.reduceLT, Int.reduceLE, Int.reduceBEq, Int.reduceEq, Int.reduceToNat, u6, u2, hb6]
        all_goals first | trivial | exact .inl (by omega) | (and_intros <;> first | exact .inl (by omega) | rfl)
      | some ca =>
        have he : ofE T id = 0 := by rw [ofE, hf]; rfl
        have hca : ofC T id = ca := by rw [ofC, hf]; rfl
        simp -implicitDefEqProofs (disch := (first | omega | (simp -implicitDefEqProofs only [Heap.n_push, Heap.n_set, Blk.size_set, Blk.size_puts, Blk.size_putA, w_of_size, w_rep_size, List.length_cons, List.length_nil, ne_eq] <;> omega) | fail)) only [go_sem, Nat.reduceAdd, Nat.reduceSub, Nat.reduceMul, Nat.reduceLT, Nat.reduceMod, Nat.reduceDiv, Nat.reduceEqDiff, Nat.reduceBEq, Nat.reduceLeDiff, ↓reduceIte, reduceCtorEq, Int.reduceAdd, Int.reduceSub, Int.reduceLT, Int.reduceLE, Int.reduceBEq, Int.reduceEq, Int.reduceToNat, Cp.v, Cp.l, e6, he, undefV, u6, u2, u7]
        rw [hca] at hc6
        refine ⟨.inl (by omega), gone_tail (itself := itself) nH bI bH d6 z (by omega) hf hc6 (by omega) (by omega) (by simp -implicitDefEqProofs (disch := (first | omega | (simp -implicitDefEqProofs only [Heap.n_push, Heap.n_set, Blk.size_set, Blk.size_puts, Blk.size_putA, w_of_size, w_rep_size, List.length_cons, List.length_nil, ne_eq] <;> omega) | fail)) only [go_sem, Nat.reduceAdd, Nat.reduceSub, Nat.reduceMul, Nat.reduceLT, Nat.reduceMod, Nat.reduceDiv, Nat.reduceEqDiff, Nat.reduceBEq, Nat.reduceLeDiff, ↓reduceIte, reduceCtorEq, Int.reduceAdd, Int.reduceSub, Int.reduceLT, Int.reduceLE, Int.reduceBEq, Int.reduceEq, Int.reduceToNat, u2]) (by simp -implicitDefEqProofs (disch := (first | omega | (simp -implicitDefEqProofs only [Heap.n_push, Heap.n_set, Blk.size_set, Blk.size_puts, Blk.size_putA, w_of_size, w_rep_size, List.length_cons, List.length_nil, ne_eq] <;> omega) | fail)) only [go_sem, Nat.reduceAdd, Nat.reduceSub, Nat.reduceMul, Nat.reduceLT, Nat.reduceMod, Nat.reduceDiv, Nat.reduceEqDiff, Nat.reduceBEq, Nat.reduceLeDiff, ↓reduceIte, reduceCtorEq, Int.reduceAdd, Int.reduceSub, Int.reduceLT, Int.reduceLE, Int.reduceBEq, Int.reduceEq, Int.reduceToNat, u4]) (by simp -implicitDefEqProofs (disch := (first | omega | (simp -implicitDefEqProofs only [Heap.n_push, Heap.n_set, Blk.size_set, Blk.size_puts, Blk.size_putA, w_of_size, w_rep_size, List.length_cons, List.length_nil, ne_eq] <;> omega) | fail)) only [go_sem, Nat.reduceAdd, Nat.reduceSub, Nat.reduceMul, Nat.reduceLT, Nat.reduceMod, Nat.reduceDiv, Nat.reduceEqDiff, Nat.reduceBEq, Nat.reduceLeDiff, ↓reduceIte, reduceCtorEq, Int.reduceAdd, Int.reduceSub, Int.reduceLT, Int.reduceLE, Int.reduceBEq, Int.reduceEq, Int.reduceToNat, u6]) (by simp -implicitDefEqProofs (disch := (first | omega | (simp -implicitDefEqProofs only [Heap.n_push, Heap.n_set, Blk.size_set, Blk.size_puts, Blk.size_putA, w_of_size, w_rep_size, List.length_cons, List.length_nil, ne_eq] <;> omega) | fail)) only [go_sem, Nat.reduceAdd, Nat.reduceSub, Nat.reduceMul, Nat.reduceLT, Nat.reduceMod, Nat.reduceDiv, Nat.reduceEqDiff, Nat.reduceBEq, Nat.reduceLeDiff, ↓reduceIte, reduceCtorEq, Int.reduceAdd, Int.reduceSub, Int.reduceLT, Int.reduceLE, Int.reduceBEq, Int.reduceEq, Int.reduceToNat, u7]) (by simp -implicitDefEqProofs (disch := (first | omega | (simp -implicitDefEqProofs only [Heap.n_push, Heap.n_set, Blk.size_set, Blk.size_puts, Blk.size_putA, w_of_size, w_rep_size, List.length_cons, List.length_nil, ne_eq] <;> omega) | fail)) only [go_sem, Nat.reduceAdd, Nat.reduceSub, Nat.reduceMul, Nat.reduceLT, Nat.reduceMod, Nat.reduceDiv, Nat.reduceEqDiff, Nat.reduceBEq, Nat.reduceLeDiff, ↓reduceIte, reduceCtorEq, Int.reduceAdd, Int.reduceSub, Int.reduceLT, Int.reduceLE, Int.reduceBEq, Int.reduceEq, Int.reduceToNat])⟩
  · simp -implicitDefEqProofs (disch := (first | omega | (simp -implicitDefEqProofs only [Heap.n_push, Heap.n_set, Blk.size_set, Blk.size_puts, Blk.size_putA, w_of_size, w_rep_size, List.length_cons, List.length_nil, ne_eq] <;> omega) | fail)) only [go_sem, Nat.reduceAdd, Nat.reduceSub, Nat.reduceMul, Nat.reduceLT, Nat.reduceMod, Nat.reduceDiv, Nat.reduceEqDiff, Nat.reduceBEq, Nat.reduceLeDiff, ↓reduceIte, reduceCtorEq, Int.reduceAdd, Int.reduceSub, Int.reduceLT, Int.reduceLE, Int.reduceBEq, Int.reduceEq, Int.reduceToNat, ir5, cfst, csnd, undefV, ↓hl0]
    refine GCall.of (known_ok _ _ _).any ?_
    rintro v g ⟨rfl, rfl⟩
    simp -implicitDefEqProofs (disch := (first | omega | (simp -implicitDefEqProofs only [Heap.n_push, Heap.n_set, Blk.size_set, Blk.size_puts, Blk.size_putA, w_of_size, w_rep_size, List.length_cons, List.length_nil, ne_eq] <;> omega) | fail)) only [go_sem, Nat.reduceAdd, Nat.reduceSub, Nat.reduceMul, Nat.reduceLT, Nat.reduceMod, Nat.reduceDiv, Nat.reduceEqDiff, Nat.reduceBEq, Nat.reduceLeDiff, ↓reduceIte, reduceCtorEq, Int.reduceAdd, Int.reduceSub, Int.reduceLT, Int.reduceLE, Int.reduceBEq, Int.reduceEq, Int.reduceToNat]
end Go.Proofs.Ytehgjkopobkbmaa
