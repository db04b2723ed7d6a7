/- CpuFlat: texts of bytes, the law's loop. -/
import Derived.Test.YtmkdbninmimndaaC3
import Derived.Test.YtmkdbninmimndaaKn
import Derived.Test.YtmkdbninmimndaaVmOpen
set_option maxRecDepth 100000
set_option linter.unusedVariables false
set_option linter.unusedSimpArgs false
namespace Go.Proofs.Ytmkdbninmimndaa
open Go Go.Vm
theorem known_ok (h : Heap) (R W : Set') : SF Try.prog 10 [] h R W fun v h' => v = .bool true ∧ h' = h := SF.closedH hm noHook_ok known_run h R W
def byteOf : V → UInt8
  | .int _ n => UInt8.ofNat n.toNat
  | _ => 0
def strB (l : List V) : ByteArray := ⟨⟨l.map byteOf⟩⟩
def Byt (l : List V) : Prop := ∀ v ∈ l, ∃ n : Int, v = .int .u8 n ∧ 0 ≤ n ∧ n ≤ 255
theorem strL_of : ∀ {l : List V}, Byt l → strL l = some (l.map byteOf)
  | [], _ => rfl
  | v :: r, h => by
    obtain ⟨n, rfl, _⟩ := h v (by simp)
    rw [strL, strL_of fun v hv => h v (by simp [hv])]
    rfl
theorem conv_lv {h : Heap} {v : V} {l : List V} (hv : LV h v l) (hl : Byt l) : ∃ rs, convV Try.prog 23 9 v h = some (.str (strB l), rs) := by
  rcases hv with ⟨rfl, rfl | ⟨a, rfl⟩⟩ | ⟨b, o, cap, ex, c, ce, rfl, hb, hs, hg⟩
  · exact ⟨[], by simp only [convV, Try.underlying23, Try.underlying9, Try.underlying5]; rfl⟩
  · exact ⟨[], by simp only [convV, Try.underlying23, Try.underlying9, Try.underlying5]; rfl⟩
  · exact ⟨[b], by simp only [convV, Try.underlying23, Try.underlying9, Try.underlying5, hb, w_ble_t hs, hg, strL_of hl]; rfl⟩
theorem sb_neq (a : ByteArray) : strBin .neq a a = some (.bool false) := by
  show some (V.bool (!eqB a.data.toList a.data.toList)) = _
  rw [eqB_eq]; simp
theorem gets_take (c : Blk) (n m : Nat) (h : m ≤ n) : c.gets 0 m = (c.gets 0 n).take m := by
  apply List.ext_getElem?
  intro j
  rw [List.getElem?_take]
  by_cases hj : j < m
  · rw [if_pos hj, Blk.gets_get _ _ _ _ hj, Blk.gets_get _ _ _ _ (by omega)]
  · rw [if_neg hj, List.getElem?_eq_none (by rw [Blk.length_gets]; omega)]
theorem slice_own {n0 : Nat} {h : Heap} {v : V} {l z : List V} (ho : Own n0 h v (l ++ z) 5) : ∃ v', sliceV Try.prog 23 v none (some (l.length : Int)) none = some v' ∧ LV h v' l := by
  rcases ho with ⟨h0, rfl | ⟨b, c, rfl, _, hb, _⟩⟩ | ⟨b, x, c, h0, rfl, _, hb, hs, _, hg⟩
  · obtain rfl : l = [] := by simp at h0; exact h0.1
    exact ⟨.slice none 0 0 true, by simp only [sliceV, Try.underlying23, sz_5]; rfl, .inl ⟨rfl, .inl rfl⟩⟩
  · obtain rfl : l = [] := by simp at h0; exact h0.1
    exact ⟨.slice (some (b, 0)) 0 0 true, by simp only [sliceV, Try.underlying23, sz_5]; rfl, .inr ⟨b, 0, 0, true, c, 5, rfl, hb, by simp, rfl⟩⟩
  · have hll : (l ++ z).length = l.length + z.length := by simp
    have hbv : boundsV (l ++ z).length (l ++ z).length none (some (l.length : Int)) none = some (0, l.length, (l ++ z).length) := by
      have : (l.length : Int).toNat = l.length := by omega
      simp only [boundsV, this]
      rw [if_pos (by omega)]
    have hp := List.length_pos_iff.2 h0
    have hb0 : Nat.blt 0 (l ++ z).length = true := w_blt_t (by omega)
    have hq0 : Nat.beq (l ++ z).length 0 = false := w_beq_f (by omega)
    refine ⟨.slice (some (b, 0)) l.length (l ++ z).length x, ?_, .inr ⟨b, 0, _, x, c, 5, rfl, hb, by omega, ?_⟩⟩
    · simp only [sliceV, Try.underlying23, sz_5, hbv]
      cases x with
      | true => simp only [hq0]; rfl
      | false => simp
    · rw [gets_take c (l ++ z).length l.length (by omega), hg]; simp
theorem law_loop {h : Heap} {R W : Set'} {Q' : Ex → Fr → Heap → Prop} {t : List It} {v vr mv ev av rv nv : V} {Q : List V} {q : Nat → Int} {b0 : Bool} (hv : LV h vr Q) (hlen : Q.length ≤ 9223372036854775807) (hint : ∀ i, i < Q.length → Q[i]? = some (.int .i64 (q i))) (hR : ∀ b, R b)
    (hk : ∀ tr, tr.get 0 = some v → tr.get 1 = some vr → tr.get 2 = some av → tr.get 3 = some rv → tr.get 4 = some nv → tr.get 11 = some mv → tr.get 12 = some ev → tr.get 13 = some (.bool (badF q b0 Q.length)) → resume (Try.prog : MP) R W none Q' t (.exit 0) ⟨⟨179, tr⟩, []⟩ h)
    {tr : Tr V} (t0 : tr.get 0 = some v) (t1 : tr.get 1 = some vr) (t2 : tr.get 2 = some av) (t3 : tr.get 3 = some rv) (t4 : tr.get 4 = some nv) (t11 : tr.get 11 = some mv) (t12 : tr.get 12 = some ev) (t13 : tr.get 13 = some (.bool b0)) (t14 : tr.get 14 = some (.int .i64 0)) : GLoop (Try.prog : MP) R W none Q' ir7_l0 t ⟨⟨179, tr⟩, []⟩ h := by
  have hl2 := hv.len24
  refine GLoop.inv hm (fun k f g => g = h ∧ f.mks = [] ∧ f.tm.n = 179 ∧ f.tm.get 0 = some v ∧ f.tm.get 1 = some vr ∧ f.tm.get 2 = some av ∧ f.tm.get 3 = some rv ∧ f.tm.get 4 = some nv ∧ f.tm.get 11 = some mv ∧ f.tm.get 12 = some ev ∧ ∃ i : Nat, i + k = Q.length ∧ f.tm.get 14 = some (.int .i64 i) ∧ f.tm.get 13 = some (.bool (badF q b0 i))) Q.length ?_ ?_
  · exact ⟨rfl, rfl, rfl, t0, t1, t2, t3, t4, t11, t12, 0, by omega, t14, t13⟩
  clear t0 t1 t2 t3 t4 t11 t12 t13 t14
  clear tr
  rintro k ⟨⟨n', tr⟩, mks⟩ g ⟨rfl, hmk, hn', t0, t1, t2, t3, t4, t11, t12, i, hi, t14, t13⟩
  simp only [Tm.get_mk] at hmk hn' t0 t1 t2 t3 t4 t11 t12 t13 t14
  subst hmk hn'
  by_cases hin : i < Q.length
  · obtain ⟨b, o, cap, ex, c, ce, rfl, hb, hbs, hbg⟩ := hv.get hin
    rw [List.getD_eq_getElem?_getD, hint _ hin, Option.getD_some] at hbg
    have hRb := hR b
    cases hbad : badF q b0 i with
    | true =>
      rw [hbad] at t13
      simp -implicitDefEqProofs (disch := (first | omega | (simp -implicitDefEqProofs only [Heap.n_push, Heap.n_set, Blk.size_set, Blk.size_puts, Blk.size_putA, w_of_size, w_rep_size, List.length_cons, List.length_nil, ne_eq] <;> omega) | fail)) only [go_sem, Nat.reduceAdd, Nat.reduceSub, Nat.reduceMul, Nat.reduceLT, Nat.reduceMod, Nat.reduceDiv, Nat.reduceEqDiff, Nat.reduceBEq, Nat.reduceLeDiff, ↓reduceIte, reduceCtorEq, Int.reduceAdd, Int.reduceSub, Int.reduceLT, Int.reduceLE, Int.reduceBEq, Int.reduceEq, Int.reduceToNat, ir7_l0, t0, t1, t2, t3, t4, t11, t12, t13, t14, ↓hl2, hb, hbs, hbg, hRb, undefV]
      exact ⟨k - 1, by omega, i + 1, by omega, congrArg _ (by omega), by simp only [badF, hbad]; rfl⟩
    | false =>
      rw [hbad] at t13
      by_cases q0 : q i < 0
      · simp -implicitDefEqProofs (disch := (first | omega | (simp -implicitDefEqProofs only [Heap.n_push, Heap.n_set, Blk.size_set, Blk.size_puts, Blk.size_putA, w_of_size, w_rep_size, List.length_cons, List.length_nil, ne_eq] <;> omega) | fail)) only [go_sem, Nat.reduceAdd, Nat.reduceSub, Nat.reduceMul, Nat.reduceLT, Nat.reduceMod, Nat.reduceDiv, Nat.reduceEqDiff, Nat.reduceBEq, Nat.reduceLeDiff, ↓reduceIte, reduceCtorEq, Int.reduceAdd, Int.reduceSub, Int.reduceLT, Int.reduceLE, Int.reduceBEq, Int.reduceEq, Int.reduceToNat, ir7_l0, t0, t1, t2, t3, t4, t11, t12, t13, t14, ↓hl2, hb, hbs, hbg, hRb, undefV]
        exact ⟨k - 1, by omega, i + 1, by omega, congrArg _ (by omega), by simp only [badF, hbad, decide_eq_true q0]; rfl⟩
      · by_cases q7 : 7 < q i
        · simp -implicitDefEqProofs (disch := (first | omega | (simp -implicitDefEqProofs only [Heap.n_push, Heap.n_set, Blk.size_set, Blk.size_puts, Blk.size_putA, w_of_size, w_rep_size, List.length_cons, List.length_nil, ne_eq] <;> omega) | fail)) only [go_sem, Nat.reduceAdd, Nat.reduceSub, Nat.reduceMul, Nat.reduceLT, Nat.reduceMod, Nat.reduceDiv, Nat.reduceEqDiff, Nat.reduceBEq, Nat.reduceLeDiff, ↓reduceIte, reduceCtorEq, Int.reduceAdd, Int.reduceSub, Int.reduceLT, Int.reduceLE, Int.reduceBEq, Int.reduceEq, Int.reduceToNat, ir7_l0, t0, t1, t2, t3, t4, t11, t12, t13, t14, ↓hl2, hb, hbs, hbg, hRb, undefV]
          exact ⟨k - 1, by omega, i + 1, by omega, congrArg _ (by omega), by simp only [badF, hbad, decide_eq_false q0, decide_eq_true q7]; rfl⟩
        · simp -implicitDefEqProofs (disch := (first | omega | (simp -implicitDefEqProofs only [Heap.n_push, Heap.n_set, Blk.size_set, Blk.size_puts, Blk.size_putA, w_of_size, w_rep_size, List.length_cons, List.length_nil, ne_eq] <;> omega) | fail)) only [go_sem, Nat.reduceAdd, Nat.reduceSub, Nat.reduceMul, Nat.reduceLT, Nat.reduceMod, Nat.reduceDiv, Nat.reduceEqDiff, Nat.reduceBEq, Nat.reduceLeDiff, ↓reduceIte, reduceCtorEq, Int.reduceAdd, Int.reduceSub, Int.reduceLT, Int.reduceLE, Int.reduceBEq, Int.reduceEq, Int.reduceToNat, ir7_l0, t0, t1, t2, t3, t4, t11, t12, t13, t14, ↓hl2, hb, hbs, hbg, hRb, undefV]
          exact ⟨k - 1, by omega, i + 1, by omega, congrArg _ (by omega), by simp only [badF, hbad, decide_eq_false q0, decide_eq_false q7]; rfl⟩
  · have : i = Q.length := by omega
    subst this
    simp -implicitDefEqProofs (disch := (first | omega | (simp -implicitDefEqProofs only [Heap.n_push, Heap.n_set, Blk.size_set, Blk.size_puts, Blk.size_putA, w_of_size, w_rep_size, List.length_cons, List.length_nil, ne_eq] <;> omega) | fail)) only [go_sem, Nat.reduceAdd, Nat.reduceSub, Nat.reduceMul, Nat.reduceLT, Nat.reduceMod, Nat.reduceDiv, Nat.reduceEqDiff, Nat.reduceBEq, Nat.reduceLeDiff, ↓reduceIte, reduceCtorEq, Int.reduceAdd, Int.reduceSub, Int.reduceLT, Int.reduceLE, Int.reduceBEq, Int.reduceEq, Int.reduceToNat, ir7_l0, t0, t1, t2, t3, t4, t11, t12, t13, t14, ↓hl2]
    exact hk _ (by simp -implicitDefEqProofs (disch := (first | omega | (simp -implicitDefEqProofs only [Heap.n_push, Heap.n_set, Blk.size_set, Blk.size_puts, Blk.size_putA, w_of_size, w_rep_size, List.length_cons, List.length_nil, ne_eq] <;> omega) | fail)) only [go_sem, Nat.reduceAdd, Nat.reduceSub, Nat.reduceMul, Nat.reduceLT, Nat.reduceMod, Nat.reduceDiv, Nat.reduceEqDiff, Nat.reduceBEq, Nat.reduceLeDiff, ↓reduceIte, reduceCtorEq, Int.reduceAdd, Int.reduceSub, Int.reduceLT, Int.reduceLE, Int.reduceBEq, Int.reduceEq, Int.reduceToNat, t0]) (by simp -implicitDefEqProofs (disch := (first | omega | (simp -implicitDefEqProofs only [Heap.n_push, Heap.n_set, Blk.size_set, Blk.size_puts, Blk.size_putA, w_of_size, w_rep_size, List.length_cons, List.length_nil, ne_eq] <;> omega) | fail)) only [go_sem, Nat.reduceAdd, Nat.reduceSub, Nat.reduceMul, Nat.reduceLT, Nat.reduceMod, Nat.reduceDiv, Nat.reduceEqDiff, Nat.reduceBEq, Nat.reduceLeDiff, ↓reduceIte, reduceCtorEq, Int.reduceAdd, Int.reduceSub, Int.reduceLT, Int.reduceLE, Int.reduceBEq, Int.reduceEq, Int.reduceToNat, t1]) (by simp -implicitDefEqProofs (disch := (first | omega | (simp -implicitDefEqProofs only [Heap.n_push, Heap.n_set, Blk.size_set, Blk.size_puts, Blk.size_putA, w_of_size, w_rep_size, List.length_cons, List.length_nil, ne_eq] <;> omega) | fail)) only [go_sem, Nat.reduceAdd, Nat.reduceSub, Nat.reduceMul, Nat.reduceLT, Nat.reduceMod, Nat.reduceDiv, Nat.reduceEqDiff, Nat.reduceBEq, Nat.reduceLeDiff, ↓reduceIte, reduceCtorEq, Int.reduceAdd, Int.reduceSub, Int.reduceLT, Int.reduceLE, Int.reduceBEq, Int.reduceEq, Int.reduceToNat, t2]) (by simp -implicitDefEqProofs (disch := (first | omega | (simp -implicitDefEqProofs only [Heap.n_push, Heap.n_set, Blk.size_set, Blk.size_puts, Blk.size_putA, w_of_size, w_rep_size, List.length_cons, List.length_nil, ne_eq] <;> omega) | fail)) only [go_sem, Nat.reduceAdd, Nat.reduceSub, Nat.reduceMul, Nat.reduceLT, Nat.reduceMod, Nat.reduceDiv, Nat.reduceEqDiff, Nat.reduceBEq, Nat.reduceLeDiff, ↓reduceIte, reduceCtorEq, Int.reduceAdd, Int.reduceSub, Int.reduceLT, Int.reduceLE, Int.reduceBEq, Int.reduceEq, Int.reduceToNat, t3]) (by simp -implicitDefEqProofs (disch := (first | omega | (simp -implicitDefEqProofs only [Heap.n_push, Heap.n_set, Blk.size_set, Blk.size_puts, Blk.size_putA, w_of_size, w_rep_size, List.length_cons, List.length_nil, ne_eq] <;> omega) | fail)) only [go_sem, Nat.reduceAdd, Nat.reduceSub, Nat.reduceMul, Nat.reduceLT, Nat.reduceMod, Nat.reduceDiv, Nat.reduceEqDiff, Nat.reduceBEq, Nat.reduceLeDiff, ↓reduceIte, reduceCtorEq, Int.reduceAdd, Int.reduceSub, Int.reduceLT, Int.reduceLE, Int.reduceBEq, Int.reduceEq, Int.reduceToNat, t4]) (by simp -implicitDefEqProofs (disch := (first | omega | (simp -implicitDefEqProofs only [Heap.n_push, Heap.n_set, Blk.size_set, Blk.size_puts, Blk.size_putA, w_of_size, w_rep_size, List.length_cons, List.length_nil, ne_eq] <;> omega) | fail)) only [go_sem, Nat.reduceAdd, Nat.reduceSub, Nat.reduceMul, Nat.reduceLT, Nat.reduceMod, Nat.reduceDiv, Nat.reduceEqDiff, Nat.reduceBEq, Nat.reduceLeDiff, ↓reduceIte, reduceCtorEq, Int.reduceAdd, Int.reduceSub, Int.reduceLT, Int.reduceLE, Int.reduceBEq, Int.reduceEq, Int.reduceToNat, t11]) (by simp -implicitDefEqProofs (disch := (first | omega | (simp -implicitDefEqProofs only [Heap.n_push, Heap.n_set, Blk.size_set, Blk.size_puts, Blk.size_putA, w_of_size, w_rep_size, List.length_cons, List.length_nil, ne_eq] <;> omega) | fail)) only [go_sem, Nat.reduceAdd, Nat.reduceSub, Nat.reduceMul, Nat.reduceLT, Nat.reduceMod, Nat.reduceDiv, Nat.reduceEqDiff, Nat.reduceBEq, Nat.reduceLeDiff, ↓reduceIte, reduceCtorEq, Int.reduceAdd, Int.reduceSub, Int.reduceLT, Int.reduceLE, Int.reduceBEq, Int.reduceEq, Int.reduceToNat, t12]) (by simp -implicitDefEqProofs (disch := (first | omega | (simp -implicitDefEqProofs only [Heap.n_push, Heap.n_set, Blk.size_set, Blk.size_puts, Blk.size_putA, w_of_size, w_rep_size, List.length_cons, List.length_nil, ne_eq] <;> omega) | fail)) only [go_sem, Nat.reduceAdd, Nat.reduceSub, Nat.reduceMul, Nat.reduceLT, Nat.reduceMod, Nat.reduceDiv, Nat.reduceEqDiff, Nat.reduceBEq, Nat.reduceLeDiff, ↓reduceIte, reduceCtorEq, Int.reduceAdd, Int.reduceSub, Int.reduceLT, Int.reduceLE, Int.reduceBEq, Int.reduceEq, Int.reduceToNat, t13])
end Go.Proofs.Ytmkdbninmimndaa
