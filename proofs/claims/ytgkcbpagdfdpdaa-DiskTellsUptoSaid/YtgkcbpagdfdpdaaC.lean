/- A disk: Write, Flush. -/
import Derived.Test.YtgkcbpagdfdpdaaB
set_option linter.unusedVariables false
set_option linter.unusedSimpArgs false
set_option linter.unusedSimpArgs false
set_option maxRecDepth 100000
set_option linter.unusedVariables false
set_option linter.unusedSimpArgs false
namespace Go.Vm
theorem append_firstS {P : Program} {e sz bytes : Nat} {h : Heap} {xb : Nat} {cx : Blk} {te : TypeId} {vs : List V} (hx : h.get xb = some (.cells cx te)) (hs : sz ≤ cx.size) (hv : cx.gets 0 sz = vs) (hb : bytes ≤ 140737488355328) :
    appE e sz bytes (.slice none 0 0 true) (.slice (some (xb, 0)) 1 1 true) h = some ⟨.slice (some (h.n, 0)) 1 1 false, h.push (.cells (Blk.of vs) e), [xb], []⟩ := by
  have hl : vs.length = sz := by rw [← hv, Blk.length_gets]
  unfold appE
  simp only [lenOfV, firstV, hx, Nat.one_mul, Nat.zero_add, w_ble_t hs, hv, w_beq_t hl, w_ble_f (show 0 < 1 by omega), Nat.zero_mul, List.length_nil, w_beq_t (rfl : 0 = 0), w_ble_t hb, w_ble_t (show 1 ≤ 9223372036854775807 by omega)]
  rfl
theorem append_nextS {P : Program} {e sz bytes n : Nat} {h : Heap} {xb bj : Nat} {cx : Blk} {te : TypeId} {vs l : List V} (hx : h.get xb = some (.cells cx te)) (hs : sz ≤ cx.size) (hv : cx.gets 0 sz = vs) (hv1 : allOne vs = true) (hn : n * sz = l.length) (hj : h.get bj = some (.cells (Blk.of l) e)) (hb : (n + 1) * bytes ≤ 140737488355328) (hbig : n + 1 ≤ 9223372036854775807) :
    appE e sz bytes (.slice (some (bj, 0)) n n false) (.slice (some (xb, 0)) 1 1 true) h = some ⟨.slice (some (h.n, 0)) (n + 1) (n + 1) false, (h.set bj .dead).push (.cells (Blk.of (l ++ vs)) e), [xb] ++ [bj], [bj]⟩ := by
  have hl : vs.length = sz := by rw [← hv, Blk.length_gets]
  unfold appE
  simp only [lenOfV, firstV, hx, Nat.one_mul, Nat.zero_add, w_ble_t hs, hv, w_beq_t hl, w_ble_f (show n < n + 1 by omega), hj, w_of_size, w_ble_t (show n * sz ≤ l.length by omega), gets_all l hn, w_beq_t (show l.length = n * sz from hn.symm), w_ble_t hb, w_ble_t hbig]
  simp only [appendOut, hj, w_beq_t (rfl : e = e), w_of_size, Nat.zero_add, w_beq_t hn, hv1, Blk.ro_of]
theorem putL_all : ∀ (l z p : List V), z.length = l.length → putL (p ++ z) p.length l = p ++ l
  | [], z, p, h => by
    have : z = [] := List.length_eq_zero_iff.1 h
    subst this; rfl
  | v :: l, [], p, h => by simp at h
  | v :: l, w :: z, p, h => by
    simp only [putL]
    have e : (p ++ w :: z).set p.length v = (p ++ [v]) ++ z := by
      rw [List.set_append_right _ _ (Nat.le_refl _), Nat.sub_self, List.set_cons_zero]; simp
    have := putL_all l z (p ++ [v]) (by simpa using h)
    rw [e, show p.length + 1 = (p ++ [v]).length by simp, this]
    simp
end Go.Vm
namespace Go.Proofs.Ytgkcbpagdfdpdaa
open Go Go.Vm
attribute [-go_sem] sz_67
theorem ap_51 : apT Try.prog 51 51 = some (67, 128, 128) := by kernel_rfl
theorem bs_51_1 (ps : List (Nat × V)) : builtSliceV Try.prog 51 1 ps = match fillV (fun i => some (i * 128, 128)) ze_67 ps with | some r => some (67, r) | none => none := by kernel_rfl
theorem bs_51_sec {l : List V} (hl : IsSec l) : builtSliceV Try.prog 51 1 [(0, .agg l)] = some (67, l) := by
  have h1 := hl.1
  have hN := secN_eq
  have zl := zel_67
  have := putL_all l ze_67 [] (by omega)
  simp only [List.nil_append, List.length_nil] at this
  rw [bs_51_1, w_fill_cons]
  simp only [Nat.zero_mul, w_agg, this, w_fill_nil]
  rw [if_pos (by omega)]
theorem arr_67 (a : Option (Nat × Nat)) (cap : Nat) (ex : Bool) : arrAtV Try.prog 67 (.slice a 128 cap ex) = some (.ptr a) := by
  simp [arrAtV, Try.underlying67]
/-- A slice with a sector's bytes. -/
def SecV (h : Heap) (v : V) (l : List V) : Prop := ∃ b o cap ex c ce, v = .slice (some (b, o)) 128 cap ex ∧ h.get b = some (.cells c ce) ∧ o + 128 ≤ c.size ∧ c.gets o secN = l
def DS.write (D : DS) (s : Nat) (l : List V) : DS := { D with pe := fun x => if x = s then D.pe s ++ [l] else D.pe x, wr := IntKind.i64.wrap (D.wr + 1) }
def DL.write (L : DL) (s nb : Nat) : DL := { L with pb := fun x => if x = s then nb else L.pb x }
theorem DiskAt.write {h h' : Heap} {bd : Nat} {L : DL} {D : DS} {s nb : Nat} {l : List V} (hd : DiskAt h bd L D) (hs : s < D.n) (hl : IsSec l) (few : (D.pe s).length < 1000000000) (hn : h.n ≤ nb)
    (hk : ∀ b, b < h.n → b ≠ bd → b ≠ L.mb → (D.pe s ≠ [] → b ≠ L.pb s) → h'.get b = h.get b)
    (kd : ∃ c, h'.get bd = some (.cells c 54) ∧ c.size = 3 ∧ c.ro = false ∧ c.get 0 = .slice (some (L.fb, 0)) D.n L.cap L.ex ∧ c.get 1 = .map (some L.mb) ∧ c.get 2 = .int .i64 (IntKind.i64.wrap (D.wr + 1)))
    (km : ∃ es ck es' ck', h.get L.mb = some (.map es ck) ∧ h'.get L.mb = some (.map es' ck') ∧ IMap es' ck' ∧ ∀ x, getI es' x = if x = s then some (.slice (some (nb, 0)) ((D.pe s).length + 1) ((D.pe s).length + 1) false) else getI es x)
    (kb : h'.get nb = some (.cells (Blk.of ((D.pe s).flatten ++ l)) 67)) : DiskAt h' bd (L.write s nb) (D.write s l) := by
  obtain ⟨hp, ⟨c, d1, d2⟩, ⟨f, f1, f2⟩, ⟨es, ck, m1, m2, m3⟩, h1, h2, h3, h4⟩ := hd
  obtain ⟨es0, ck0, es', ck', e0, e1, e2, e3⟩ := km
  rw [m1] at e0
  obtain ⟨rfl, rfl⟩ : es = es0 ∧ ck = ck0 := by simpa using e0
  have hfb := Heap.lt_of_get f1
  have hbd := Heap.lt_of_get d1
  have hmb := Heap.lt_of_get m1
  refine ⟨hp, kd, ⟨f, ?_, f2⟩, ⟨es', ck', e1, e2, ?_⟩, h1, ?_, ?_, ?_⟩
  · rw [show (L.write s nb).fb = L.fb from rfl, hk _ hfb ?_ ?_ ?_]; exact f1
    · intro e; rw [e, d1] at f1; cases f1
    · intro e; rw [e, m1] at f1; cases f1
    · intro e e1; exact (m3.blk s e).2.2.1 e1.symm
  · refine ⟨fun x => ?_, fun x hx => ?_, fun x hx => ?_, fun x y hx hy hxy => ?_⟩
    · rw [e3]
      by_cases hx : x = s
      · subst hx; simp [DS.write, DL.write]
      · rw [if_neg (by omega), m3.has]; simp [DS.write, DL.write, hx]
    · rw [e3, if_neg (by omega)]; exact m3.neg x hx
    · by_cases hxs : x = s
      · subst hxs
        simp only [DS.write, DL.write, if_true]
        refine ⟨?_, by omega, by omega, by omega⟩
        rw [kb]; simp
      · simp only [DS.write, DL.write, if_neg hxs] at hx ⊢
        obtain ⟨b1, b2, b3, b4⟩ := m3.blk x hx
        refine ⟨?_, b2, b3, b4⟩
        rw [hk _ (Heap.lt_of_get b1) b2 b4 fun e e1 => m3.inj x s hx e hxs e1]; exact b1
    · simp only [DS.write, DL.write] at hx hy ⊢
      by_cases hxs : x = s
      · rw [if_pos hxs]
        have hys : ¬ y = s := by omega
        rw [if_neg hys] at hy ⊢
        have := Heap.lt_of_get (m3.blk y hy).1
        omega
      · rw [if_neg hxs] at hx ⊢
        by_cases hys : y = s
        · rw [if_pos hys]
          have := Heap.lt_of_get (m3.blk x hx).1
          omega
        · rw [if_neg hys] at hy ⊢
          exact m3.inj x y hx hy hxy
  · intro x m hm
    simp only [DS.write] at hm
    split at hm
    · rcases List.mem_append.1 hm with hm | hm
      · exact h2 _ _ hm
      · simp at hm; subst hm; exact hl
    · exact h2 _ _ hm
  · intro x hx
    simp only [DS.write] at hx ⊢
    rw [if_neg (by omega)]; exact h3 x hx
  · intro x
    simp only [DS.write]
    split
    · simp; omega
    · exact h4 x
theorem Foot.write {bd : Nat} {L : DL} {D : DS} {s nb : Nat} {l : List V} {b : Nat} (hb : Foot bd (L.write s nb) (D.write s l) b) : Foot bd L D b ∨ b = nb := by
  rcases hb with h | h | h | ⟨x, hx, h⟩
  · exact .inl (.inl h)
  · exact .inl (.inr (.inl h))
  · exact .inl (.inr (.inr (.inl h)))
  · simp only [DS.write, DL.write] at hx h
    by_cases hxs : x = s
    · rw [if_pos hxs] at h; exact .inr h
    · rw [if_neg hxs] at hx h; exact .inl (.inr (.inr (.inr ⟨x, hx, h⟩)))
theorem write_bad {h : Heap} {R W : Set'} {bd : Nat} {L : DL} {D : DS} (hd : DiskAt h bd L D) (hR : R bd) {k : Int} (hs : ¬ (0 ≤ k ∧ k < D.n)) (v : V) : SF Try.prog 13 [.ptr (some (bd, 0)), .int .i64 k, v] h R W fun v h' => v = .int .i64 2 ∧ h' = h := by
  refine SF.go hm Try.func13 ir13_eq ?_
  simp -implicitDefEqProofs (disch := (first | omega | (simp -implicitDefEqProofs only [szs, ne_eq] <;> omega) | fail)) only [go_sem, Nat.reduceAdd, Nat.reduceSub, Nat.reduceMul, Nat.reduceLT, Nat.reduceMod, Nat.reduceDiv, Nat.reduceEqDiff, Nat.reduceBEq, Nat.reduceLeDiff, ↓reduceIte, reduceCtorEq, Int.reduceAdd, Int.reduceSub, Int.reduceLT, Int.reduceLE, Int.reduceBEq, Int.reduceEq, Int.reduceToNat, ir13]
  refine GCall.of (ask_ok hd (.inr hR) k) ?_
  rintro v h' ⟨rfl, rfl⟩
  have ha : askV D k = 2 := if_neg hs
  rw [ha]
  simp -implicitDefEqProofs (disch := (first | omega | (simp -implicitDefEqProofs only [szs, ne_eq] <;> omega) | fail)) only [go_sem, Nat.reduceAdd, Nat.reduceSub, Nat.reduceMul, Nat.reduceLT, Nat.reduceMod, Nat.reduceDiv, Nat.reduceEqDiff, Nat.reduceBEq, Nat.reduceLeDiff, ↓reduceIte, reduceCtorEq, Int.reduceAdd, Int.reduceSub, Int.reduceLT, Int.reduceLE, Int.reduceBEq, Int.reduceEq, Int.reduceToNat]
theorem write_len {h : Heap} {R W : Set'} {bd : Nat} {L : DL} {D : DS} (hd : DiskAt h bd L D) (hR : R bd) (k : Int) {v : V} {m : Nat} (hv : ∀ h, lenV Try.prog 33 v h = some (m, [])) (hm' : m ≠ 128) : SF Try.prog 13 [.ptr (some (bd, 0)), .int .i64 k, v] h R W fun v h' => v = .int .i64 2 ∧ h' = h := by
  refine SF.go hm Try.func13 ir13_eq ?_
  simp -implicitDefEqProofs (disch := (first | omega | (simp -implicitDefEqProofs only [szs, ne_eq] <;> omega) | fail)) only [go_sem, Nat.reduceAdd, Nat.reduceSub, Nat.reduceMul, Nat.reduceLT, Nat.reduceMod, Nat.reduceDiv, Nat.reduceEqDiff, Nat.reduceBEq, Nat.reduceLeDiff, ↓reduceIte, reduceCtorEq, Int.reduceAdd, Int.reduceSub, Int.reduceLT, Int.reduceLE, Int.reduceBEq, Int.reduceEq, Int.reduceToNat, ir13]
  refine GCall.of (ask_ok hd (.inr hR) k) ?_
  rintro v h' ⟨rfl, rfl⟩
  by_cases hs : 0 ≤ k ∧ k < D.n
  · have ha : askV D k = 0 := if_pos hs
    rw [ha]
    simp -implicitDefEqProofs (disch := (first | omega | (simp -implicitDefEqProofs only [szs, ne_eq] <;> omega) | fail)) only [go_sem, Nat.reduceAdd, Nat.reduceSub, Nat.reduceMul, Nat.reduceLT, Nat.reduceMod, Nat.reduceDiv, Nat.reduceEqDiff, Nat.reduceBEq, Nat.reduceLeDiff, ↓reduceIte, reduceCtorEq, Int.reduceAdd, Int.reduceSub, Int.reduceLT, Int.reduceLE, Int.reduceBEq, Int.reduceEq, Int.reduceToNat, ↓hv]
  · have ha : askV D k = 2 := if_neg hs
    rw [ha]
    simp -implicitDefEqProofs (disch := (first | omega | (simp -implicitDefEqProofs only [szs, ne_eq] <;> omega) | fail)) only [go_sem, Nat.reduceAdd, Nat.reduceSub, Nat.reduceMul, Nat.reduceLT, Nat.reduceMod, Nat.reduceDiv, Nat.reduceEqDiff, Nat.reduceBEq, Nat.reduceLeDiff, ↓reduceIte, reduceCtorEq, Int.reduceAdd, Int.reduceSub, Int.reduceLT, Int.reduceLE, Int.reduceBEq, Int.reduceEq, Int.reduceToNat]
theorem write_ok {h : Heap} {R W : Set'} {bd : Nat} {L : DL} {D : DS} (hd : DiskAt h bd L D) (hR : ∀ b, Foot bd L D b → R b) (hW : ∀ b, Foot bd L D b → W b) {s : Nat} (hs : s < D.n) {v : V} {l : List V} (hv : SecV h v l) (hRv : ∀ b o m cap ex, v = .slice (some (b, o)) m cap ex → R b) (hl : IsSec l) (few : (D.pe s).length < 1000000000) :
    SF Try.prog 13 [.ptr (some (bd, 0)), .int .i64 s, v] h R W fun v h' => v = .int .i64 0 ∧ ∃ nb, h.n ≤ nb ∧ DiskAt h' bd (L.write s nb) (D.write s l) := by
  obtain ⟨b, o, cap, ex, cv, ce, rfl, hb, hsz, hget⟩ := hv
  have hRb := hRv b o 128 cap ex rfl
  have hlk := hd.look s
  obtain ⟨c, h1, sz, ro, c0, c1, c2⟩ := hd.d
  have hR1 := hR bd (.inl rfl)
  have hW1 := hW bd (.inl rfl)
  have hR3 := hR L.mb (.inr (.inr (.inl rfl)))
  have hW3 := hW L.mb (.inr (.inr (.inl rfl)))
  have hN := secN_eq
  have hone := hl.one
  have hslen := hl.1
  have hlb := Heap.lt_of_get hb
  have hl1 := Heap.lt_of_get h1
  obtain ⟨es, ck, m1, m2, m3⟩ := hd.m
  have hlm := Heap.lt_of_get m1
  have hne : L.mb ≠ bd := fun e => by rw [e, h1] at m1; cases m1
  refine SF.go hm Try.func13 ir13_eq ?_
  simp -implicitDefEqProofs (disch := (first | omega | (simp -implicitDefEqProofs only [szs, ne_eq] <;> omega) | fail)) only [go_sem, Nat.reduceAdd, Nat.reduceSub, Nat.reduceMul, Nat.reduceLT, Nat.reduceMod, Nat.reduceDiv, Nat.reduceEqDiff, Nat.reduceBEq, Nat.reduceLeDiff, ↓reduceIte, reduceCtorEq, Int.reduceAdd, Int.reduceSub, Int.reduceLT, Int.reduceLE, Int.reduceBEq, Int.reduceEq, Int.reduceToNat, ir13]
  refine GCall.of (ask_ok hd (.inr (hR bd (.inl rfl))) s) ?_
  rintro v h' ⟨rfl, rfl⟩
  have ha : askV D s = 0 := if_pos ⟨by omega, by omega⟩
  rw [ha]
  by_cases he : D.pe s = []
  · rw [if_pos he] at hlk
    obtain ⟨es', ck', hu, u1, u2, u3⟩ := upd_int (P := Try.prog) (t := 52) Try.underlying52 Try.underlying3 (h := (h'.push (.cells (Blk.of l) 67)).push (.cells (Blk.of l) 67)) (r := L.mb) (es := es) (ck := ck) (by simp -implicitDefEqProofs (disch := (first | omega | (simp -implicitDefEqProofs only [szs, ne_eq] <;> omega) | fail)) only [go_sem, Nat.reduceAdd, Nat.reduceSub, Nat.reduceMul, Nat.reduceLT, Nat.reduceMod, Nat.reduceDiv, Nat.reduceEqDiff, Nat.reduceBEq, Nat.reduceLeDiff, ↓reduceIte, reduceCtorEq, Int.reduceAdd, Int.reduceSub, Int.reduceLT, Int.reduceLE, Int.reduceBEq, Int.reduceEq, Int.reduceToNat, m1]) m2 s (.slice (some (h'.n + 1, 0)) 1 1 false)
    simp -implicitDefEqProofs (disch := (first | omega | (simp -implicitDefEqProofs only [szs, ne_eq] <;> omega) | fail)) only [go_sem, Nat.reduceAdd, Nat.reduceSub, Nat.reduceMul, Nat.reduceLT, Nat.reduceMod, Nat.reduceDiv, Nat.reduceEqDiff, Nat.reduceBEq, Nat.reduceLeDiff, ↓reduceIte, reduceCtorEq, Int.reduceAdd, Int.reduceSub, Int.reduceLT, Int.reduceLE, Int.reduceBEq, Int.reduceEq, Int.reduceToNat, h1, c1, hlk, hR1, hR3, Try.underlying33, hb, hget, hRb, sz67, arr_67, bs_51_sec hl, appendV_of ap_51]
    rw [append_firstS (P := Try.prog) (cx := Blk.of l) (te := 67) (vs := l) (by simp -implicitDefEqProofs (disch := (first | omega | (simp -implicitDefEqProofs only [szs, ne_eq] <;> omega) | fail)) only [go_sem, Nat.reduceAdd, Nat.reduceSub, Nat.reduceMul, Nat.reduceLT, Nat.reduceMod, Nat.reduceDiv, Nat.reduceEqDiff, Nat.reduceBEq, Nat.reduceLeDiff, ↓reduceIte, reduceCtorEq, Int.reduceAdd, Int.reduceSub, Int.reduceLT, Int.reduceLE, Int.reduceBEq, Int.reduceEq, Int.reduceToNat]) (by rw [w_of_size]; omega) (gets_all l (by omega)) (by omega)]
    simp -implicitDefEqProofs (disch := (first | omega | (simp -implicitDefEqProofs only [szs, ne_eq] <;> omega) | fail)) only [go_sem, Nat.reduceAdd, Nat.reduceSub, Nat.reduceMul, Nat.reduceLT, Nat.reduceMod, Nat.reduceDiv, Nat.reduceEqDiff, Nat.reduceBEq, Nat.reduceLeDiff, ↓reduceIte, reduceCtorEq, Int.reduceAdd, Int.reduceSub, Int.reduceLT, Int.reduceLE, Int.reduceBEq, Int.reduceEq, Int.reduceToNat, hu, h1, hlm, c1, c2, ro, hR1, hR3, hW1, hW3]
    refine ⟨?_, h'.n + 1, by omega, hd.write hs hl few (by omega) (fun x h1 h2 h3 h4 => ?_) ⟨c.set 2 (.int .i64 (IntKind.i64.wrap (D.wr + 1))), ?_, ?_, ?_, ?_, ?_, ?_⟩ ⟨es, ck, es', ck', m1, ?_, u1, ?_⟩ ?_⟩
    · simp only [List.not_mem_nil, or_false, false_or, and_false, false_and, false_implies, implies_true, List.mem_singleton, and_true, true_and]
      and_intros <;> intros <;> omega
    · simp -implicitDefEqProofs (disch := (first | omega | (simp -implicitDefEqProofs only [szs, ne_eq] <;> omega) | fail)) only [go_sem, Nat.reduceAdd, Nat.reduceSub, Nat.reduceMul, Nat.reduceLT, Nat.reduceMod, Nat.reduceDiv, Nat.reduceEqDiff, Nat.reduceBEq, Nat.reduceLeDiff, ↓reduceIte, reduceCtorEq, Int.reduceAdd, Int.reduceSub, Int.reduceLT, Int.reduceLE, Int.reduceBEq, Int.reduceEq, Int.reduceToNat]
    · simp -implicitDefEqProofs (disch := (first | omega | (simp -implicitDefEqProofs only [szs, ne_eq] <;> omega) | fail)) only [go_sem, Nat.reduceAdd, Nat.reduceSub, Nat.reduceMul, Nat.reduceLT, Nat.reduceMod, Nat.reduceDiv, Nat.reduceEqDiff, Nat.reduceBEq, Nat.reduceLeDiff, ↓reduceIte, reduceCtorEq, Int.reduceAdd, Int.reduceSub, Int.reduceLT, Int.reduceLE, Int.reduceBEq, Int.reduceEq, Int.reduceToNat]
    · simp -implicitDefEqProofs (disch := (first | omega | (simp -implicitDefEqProofs only [szs, ne_eq] <;> omega) | fail)) only [go_sem, Nat.reduceAdd, Nat.reduceSub, Nat.reduceMul, Nat.reduceLT, Nat.reduceMod, Nat.reduceDiv, Nat.reduceEqDiff, Nat.reduceBEq, Nat.reduceLeDiff, ↓reduceIte, reduceCtorEq, Int.reduceAdd, Int.reduceSub, Int.reduceLT, Int.reduceLE, Int.reduceBEq, Int.reduceEq, Int.reduceToNat, sz]
    · simp -implicitDefEqProofs (disch := (first | omega | (simp -implicitDefEqProofs only [szs, ne_eq] <;> omega) | fail)) only [go_sem, Nat.reduceAdd, Nat.reduceSub, Nat.reduceMul, Nat.reduceLT, Nat.reduceMod, Nat.reduceDiv, Nat.reduceEqDiff, Nat.reduceBEq, Nat.reduceLeDiff, ↓reduceIte, reduceCtorEq, Int.reduceAdd, Int.reduceSub, Int.reduceLT, Int.reduceLE, Int.reduceBEq, Int.reduceEq, Int.reduceToNat, ro]
    · simp -implicitDefEqProofs (disch := (first | omega | (simp -implicitDefEqProofs only [szs, ne_eq] <;> omega) | fail)) only [go_sem, Nat.reduceAdd, Nat.reduceSub, Nat.reduceMul, Nat.reduceLT, Nat.reduceMod, Nat.reduceDiv, Nat.reduceEqDiff, Nat.reduceBEq, Nat.reduceLeDiff, ↓reduceIte, reduceCtorEq, Int.reduceAdd, Int.reduceSub, Int.reduceLT, Int.reduceLE, Int.reduceBEq, Int.reduceEq, Int.reduceToNat, c0]
    · simp -implicitDefEqProofs (disch := (first | omega | (simp -implicitDefEqProofs only [szs, ne_eq] <;> omega) | fail)) only [go_sem, Nat.reduceAdd, Nat.reduceSub, Nat.reduceMul, Nat.reduceLT, Nat.reduceMod, Nat.reduceDiv, Nat.reduceEqDiff, Nat.reduceBEq, Nat.reduceLeDiff, ↓reduceIte, reduceCtorEq, Int.reduceAdd, Int.reduceSub, Int.reduceLT, Int.reduceLE, Int.reduceBEq, Int.reduceEq, Int.reduceToNat, c1]
    · simp -implicitDefEqProofs (disch := (first | omega | (simp -implicitDefEqProofs only [szs, ne_eq] <;> omega) | fail)) only [go_sem, Nat.reduceAdd, Nat.reduceSub, Nat.reduceMul, Nat.reduceLT, Nat.reduceMod, Nat.reduceDiv, Nat.reduceEqDiff, Nat.reduceBEq, Nat.reduceLeDiff, ↓reduceIte, reduceCtorEq, Int.reduceAdd, Int.reduceSub, Int.reduceLT, Int.reduceLE, Int.reduceBEq, Int.reduceEq, Int.reduceToNat]
    · simp -implicitDefEqProofs (disch := (first | omega | (simp -implicitDefEqProofs only [szs, ne_eq] <;> omega) | fail)) only [go_sem, Nat.reduceAdd, Nat.reduceSub, Nat.reduceMul, Nat.reduceLT, Nat.reduceMod, Nat.reduceDiv, Nat.reduceEqDiff, Nat.reduceBEq, Nat.reduceLeDiff, ↓reduceIte, reduceCtorEq, Int.reduceAdd, Int.reduceSub, Int.reduceLT, Int.reduceLE, Int.reduceBEq, Int.reduceEq, Int.reduceToNat]
    · intro x; rw [u2, he]; rfl
    · simp -implicitDefEqProofs (disch := (first | omega | (simp -implicitDefEqProofs only [szs, ne_eq] <;> omega) | fail)) only [go_sem, Nat.reduceAdd, Nat.reduceSub, Nat.reduceMul, Nat.reduceLT, Nat.reduceMod, Nat.reduceDiv, Nat.reduceEqDiff, Nat.reduceBEq, Nat.reduceLeDiff, ↓reduceIte, reduceCtorEq, Int.reduceAdd, Int.reduceSub, Int.reduceLT, Int.reduceLE, Int.reduceBEq, Int.reduceEq, Int.reduceToNat, he, List.flatten_nil]
  · rw [if_neg he] at hlk
    have hbk := (m3.blk s he).1
    have hlk2 := Heap.lt_of_get hbk
    have hne1 := (m3.blk s he).2
    have hR4 := hR (L.pb s) (.inr (.inr (.inr ⟨s, he, rfl⟩)))
    have hW4 := hW (L.pb s) (.inr (.inr (.inr ⟨s, he, rfl⟩)))
    have hfl := flat_len (hd.pe s)
    obtain ⟨es', ck', hu, u1, u2, u3⟩ := upd_int (P := Try.prog) (t := 52) Try.underlying52 Try.underlying3 (h := ((h'.push (.cells (Blk.of l) 67)).set (L.pb s) .dead).push (.cells (Blk.of ((D.pe s).flatten ++ l)) 67)) (r := L.mb) (es := es) (ck := ck) (by simp -implicitDefEqProofs (disch := (first | omega | (simp -implicitDefEqProofs only [szs, ne_eq] <;> omega) | fail)) only [go_sem, Nat.reduceAdd, Nat.reduceSub, Nat.reduceMul, Nat.reduceLT, Nat.reduceMod, Nat.reduceDiv, Nat.reduceEqDiff, Nat.reduceBEq, Nat.reduceLeDiff, ↓reduceIte, reduceCtorEq, Int.reduceAdd, Int.reduceSub, Int.reduceLT, Int.reduceLE, Int.reduceBEq, Int.reduceEq, Int.reduceToNat, m1]) m2 s (.slice (some (h'.n + 1, 0)) ((D.pe s).length + 1) ((D.pe s).length + 1) false)
    simp -implicitDefEqProofs (disch := (first | omega | (simp -implicitDefEqProofs only [szs, ne_eq] <;> omega) | fail)) only [go_sem, Nat.reduceAdd, Nat.reduceSub, Nat.reduceMul, Nat.reduceLT, Nat.reduceMod, Nat.reduceDiv, Nat.reduceEqDiff, Nat.reduceBEq, Nat.reduceLeDiff, ↓reduceIte, reduceCtorEq, Int.reduceAdd, Int.reduceSub, Int.reduceLT, Int.reduceLE, Int.reduceBEq, Int.reduceEq, Int.reduceToNat, h1, c1, hlk, hR1, hR3, Try.underlying33, hb, hget, hRb, sz67, arr_67, bs_51_sec hl, appendV_of ap_51]
    rw [append_nextS (P := Try.prog) (cx := Blk.of l) (te := 67) (vs := l) (l := (D.pe s).flatten) (by simp -implicitDefEqProofs (disch := (first | omega | (simp -implicitDefEqProofs only [szs, ne_eq] <;> omega) | fail)) only [go_sem, Nat.reduceAdd, Nat.reduceSub, Nat.reduceMul, Nat.reduceLT, Nat.reduceMod, Nat.reduceDiv, Nat.reduceEqDiff, Nat.reduceBEq, Nat.reduceLeDiff, ↓reduceIte, reduceCtorEq, Int.reduceAdd, Int.reduceSub, Int.reduceLT, Int.reduceLE, Int.reduceBEq, Int.reduceEq, Int.reduceToNat]) (by rw [w_of_size]; omega) (gets_all l (by omega)) hone (by omega) (by simp -implicitDefEqProofs (disch := (first | omega | (simp -implicitDefEqProofs only [szs, ne_eq] <;> omega) | fail)) only [go_sem, Nat.reduceAdd, Nat.reduceSub, Nat.reduceMul, Nat.reduceLT, Nat.reduceMod, Nat.reduceDiv, Nat.reduceEqDiff, Nat.reduceBEq, Nat.reduceLeDiff, ↓reduceIte, reduceCtorEq, Int.reduceAdd, Int.reduceSub, Int.reduceLT, Int.reduceLE, Int.reduceBEq, Int.reduceEq, Int.reduceToNat, hbk]) (by omega) (by omega)]
    simp -implicitDefEqProofs (disch := (first | omega | (simp -implicitDefEqProofs only [szs, ne_eq] <;> omega) | fail)) only [go_sem, Nat.reduceAdd, Nat.reduceSub, Nat.reduceMul, Nat.reduceLT, Nat.reduceMod, Nat.reduceDiv, Nat.reduceEqDiff, Nat.reduceBEq, Nat.reduceLeDiff, ↓reduceIte, reduceCtorEq, Int.reduceAdd, Int.reduceSub, Int.reduceLT, Int.reduceLE, Int.reduceBEq, Int.reduceEq, Int.reduceToNat, hu, h1, hlm, hlk2, c1, c2, ro, hR1, hR3, hR4, hW4, hW1, hW3]
    refine ⟨?_, ?_, h'.n + 1, by omega, hd.write hs hl few (by omega) (fun x h1 h2 h3 h4 => ?_) ⟨c.set 2 (.int .i64 (IntKind.i64.wrap (D.wr + 1))), ?_, ?_, ?_, ?_, ?_, ?_⟩ ⟨es, ck, es', ck', m1, ?_, u1, ?_⟩ ?_⟩
    · simp only [List.not_mem_nil, or_false, false_or, and_false, false_and, false_implies, implies_true, not_false_eq_true, List.mem_singleton, List.mem_cons, and_true, true_and]
      and_intros <;> intros <;> omega
    · intro x hx hm
      simp only [List.mem_cons, List.not_mem_nil, or_false] at hm
      rcases hm with rfl | rfl
      · exact .inl (Nat.le_refl _)
      · exact .inr hR4
    · have := h4 he
      simp -implicitDefEqProofs (disch := (first | omega | (simp -implicitDefEqProofs only [szs, ne_eq] <;> omega) | fail)) only [go_sem, Nat.reduceAdd, Nat.reduceSub, Nat.reduceMul, Nat.reduceLT, Nat.reduceMod, Nat.reduceDiv, Nat.reduceEqDiff, Nat.reduceBEq, Nat.reduceLeDiff, ↓reduceIte, reduceCtorEq, Int.reduceAdd, Int.reduceSub, Int.reduceLT, Int.reduceLE, Int.reduceBEq, Int.reduceEq, Int.reduceToNat]
    · simp -implicitDefEqProofs (disch := (first | omega | (simp -implicitDefEqProofs only [szs, ne_eq] <;> omega) | fail)) only [go_sem, Nat.reduceAdd, Nat.reduceSub, Nat.reduceMul, Nat.reduceLT, Nat.reduceMod, Nat.reduceDiv, Nat.reduceEqDiff, Nat.reduceBEq, Nat.reduceLeDiff, ↓reduceIte, reduceCtorEq, Int.reduceAdd, Int.reduceSub, Int.reduceLT, Int.reduceLE, Int.reduceBEq, Int.reduceEq, Int.reduceToNat]
    · simp -implicitDefEqProofs (disch := (first | omega | (simp -implicitDefEqProofs only [szs, ne_eq] <;> omega) | fail)) only [go_sem, Nat.reduceAdd, Nat.reduceSub, Nat.reduceMul, Nat.reduceLT, Nat.reduceMod, Nat.reduceDiv, Nat.reduceEqDiff, Nat.reduceBEq, Nat.reduceLeDiff, ↓reduceIte, reduceCtorEq, Int.reduceAdd, Int.reduceSub, Int.reduceLT, Int.reduceLE, Int.reduceBEq, Int.reduceEq, Int.reduceToNat, sz]
    · simp -implicitDefEqProofs (disch := (first | omega | (simp -implicitDefEqProofs only [szs, ne_eq] <;> omega) | fail)) only [go_sem, Nat.reduceAdd, Nat.reduceSub, Nat.reduceMul, Nat.reduceLT, Nat.reduceMod, Nat.reduceDiv, Nat.reduceEqDiff, Nat.reduceBEq, Nat.reduceLeDiff, ↓reduceIte, reduceCtorEq, Int.reduceAdd, Int.reduceSub, Int.reduceLT, Int.reduceLE, Int.reduceBEq, Int.reduceEq, Int.reduceToNat, ro]
    · simp -implicitDefEqProofs (disch := (first | omega | (simp -implicitDefEqProofs only [szs, ne_eq] <;> omega) | fail)) only [go_sem, Nat.reduceAdd, Nat.reduceSub, Nat.reduceMul, Nat.reduceLT, Nat.reduceMod, Nat.reduceDiv, Nat.reduceEqDiff, Nat.reduceBEq, Nat.reduceLeDiff, ↓reduceIte, reduceCtorEq, Int.reduceAdd, Int.reduceSub, Int.reduceLT, Int.reduceLE, Int.reduceBEq, Int.reduceEq, Int.reduceToNat, c0]
    · simp -implicitDefEqProofs (disch := (first | omega | (simp -implicitDefEqProofs only [szs, ne_eq] <;> omega) | fail)) only [go_sem, Nat.reduceAdd, Nat.reduceSub, Nat.reduceMul, Nat.reduceLT, Nat.reduceMod, Nat.reduceDiv, Nat.reduceEqDiff, Nat.reduceBEq, Nat.reduceLeDiff, ↓reduceIte, reduceCtorEq, Int.reduceAdd, Int.reduceSub, Int.reduceLT, Int.reduceLE, Int.reduceBEq, Int.reduceEq, Int.reduceToNat, c1]
    · simp -implicitDefEqProofs (disch := (first | omega | (simp -implicitDefEqProofs only [szs, ne_eq] <;> omega) | fail)) only [go_sem, Nat.reduceAdd, Nat.reduceSub, Nat.reduceMul, Nat.reduceLT, Nat.reduceMod, Nat.reduceDiv, Nat.reduceEqDiff, Nat.reduceBEq, Nat.reduceLeDiff, ↓reduceIte, reduceCtorEq, Int.reduceAdd, Int.reduceSub, Int.reduceLT, Int.reduceLE, Int.reduceBEq, Int.reduceEq, Int.reduceToNat]
    · simp -implicitDefEqProofs (disch := (first | omega | (simp -implicitDefEqProofs only [szs, ne_eq] <;> omega) | fail)) only [go_sem, Nat.reduceAdd, Nat.reduceSub, Nat.reduceMul, Nat.reduceLT, Nat.reduceMod, Nat.reduceDiv, Nat.reduceEqDiff, Nat.reduceBEq, Nat.reduceLeDiff, ↓reduceIte, reduceCtorEq, Int.reduceAdd, Int.reduceSub, Int.reduceLT, Int.reduceLE, Int.reduceBEq, Int.reduceEq, Int.reduceToNat]
    · intro x; rw [u2]
    · simp -implicitDefEqProofs (disch := (first | omega | (simp -implicitDefEqProofs only [szs, ne_eq] <;> omega) | fail)) only [go_sem, Nat.reduceAdd, Nat.reduceSub, Nat.reduceMul, Nat.reduceLT, Nat.reduceMod, Nat.reduceDiv, Nat.reduceEqDiff, Nat.reduceBEq, Nat.reduceLeDiff, ↓reduceIte, reduceCtorEq, Int.reduceAdd, Int.reduceSub, Int.reduceLT, Int.reduceLE, Int.reduceBEq, Int.reduceEq, Int.reduceToNat]
def DS.flush1 (D : DS) (s : Nat) : DS := { D with fl := fun x => if x = s then D.seen s else D.fl x, pe := fun x => if x = s then [] else D.pe x }
def DS.flush (D : DS) (a m : Nat) : DS := { D with fl := fun x => if a ≤ x ∧ x < a + m then D.seen x else D.fl x, pe := fun x => if a ≤ x ∧ x < a + m then [] else D.pe x }
theorem DS.flush_zero (D : DS) (a : Nat) : D.flush a 0 = D := by
  obtain ⟨n, fl, pe, wr⟩ := D
  simp only [DS.flush, DS.mk.injEq, true_and, and_true]
  exact ⟨funext fun x => if_neg (by omega), funext fun x => if_neg (by omega)⟩
theorem DS.flush_succ (D : DS) (a j : Nat) : (D.flush a j).flush1 (a + j) = D.flush a (j + 1) := by
  have e : (D.flush a j).seen (a + j) = D.seen (a + j) := by
    unfold DS.seen DS.flush
    simp only []
    rw [if_neg (by omega), if_neg (by omega)]
  simp only [DS.flush1, e]
  obtain ⟨n, fl, pe, wr⟩ := D
  simp only [DS.flush, DS.mk.injEq, true_and, and_true]
  constructor
  · funext x
    by_cases hx : x = a + j
    · subst hx; rw [if_pos rfl, if_pos (by omega)]
    · rw [if_neg hx]
      by_cases h2 : a ≤ x ∧ x < a + j
      · rw [if_pos h2, if_pos (by omega)]
      · rw [if_neg h2, if_neg (by omega)]
  · funext x
    by_cases hx : x = a + j
    · subst hx; rw [if_pos rfl, if_pos (by omega)]
    · rw [if_neg hx]
      by_cases h2 : a ≤ x ∧ x < a + j
      · rw [if_pos h2, if_pos (by omega)]
      · rw [if_neg h2, if_neg (by omega)]
theorem Foot.flush {bd : Nat} {L : DL} {D : DS} {a m b : Nat} (hb : Foot bd L (D.flush a m) b) : Foot bd L D b := by
  rcases hb with h | h | h | ⟨x, hx, h⟩
  · exact .inl h
  · exact .inr (.inl h)
  · exact .inr (.inr (.inl h))
  · simp only [DS.flush] at hx
    split at hx
    · exact absurd rfl hx
    · exact .inr (.inr (.inr ⟨x, hx, h⟩))
theorem DiskAt.flush1 {h h' : Heap} {bd : Nat} {L : DL} {D : DS} {s : Nat} (hd : DiskAt h bd L D) (hs : s < D.n)
    (hk : ∀ b, b < h.n → b ≠ L.fb → b ≠ L.mb → h'.get b = h.get b)
    (kf : ∃ f, h.get L.fb = some (.cells f 67) ∧ h'.get L.fb = some (.cells (f.putA (s * 128) (D.seen s)) 67))
    (km : ∃ es ck es', h.get L.mb = some (.map es ck) ∧ h'.get L.mb = some (.map es' ck) ∧ IMap es' ck ∧ ∀ x, getI es' x = if x = s then none else getI es x) : DiskAt h' bd L (D.flush1 s) := by
  have hsec := hd.seen hs
  have hN := secN_eq
  have hsl := hsec.1
  obtain ⟨hp, ⟨c, d1, d2⟩, ⟨f, f1, f2, f3, f4⟩, ⟨es, ck, m1, m2, m3⟩, h1, h2, h3, h4⟩ := hd
  obtain ⟨f0, e0, e1⟩ := kf
  rw [f1] at e0
  obtain rfl : f = f0 := by simpa using e0
  obtain ⟨es0, ck0, es', g0, g1, g2, g3⟩ := km
  rw [m1] at g0
  obtain ⟨rfl, rfl⟩ : es = es0 ∧ ck = ck0 := by simpa using g0
  have hne1 : bd ≠ L.fb := fun e => by rw [e, f1] at d1; cases d1
  have hne2 : bd ≠ L.mb := fun e => by rw [e, m1] at d1; cases d1
  refine ⟨hp, ⟨c, by rw [hk _ (Heap.lt_of_get d1) hne1 hne2]; exact d1, d2⟩, ⟨_, e1, by rw [Blk.size_putA]; exact f2, by rw [Blk.ro_putA]; exact f3, fun x hx => ?_⟩, ⟨es', ck, g1, g2, ?_⟩, fun x hx => ?_, fun x l hl => ?_, fun x hx => ?_, fun x => ?_⟩
  · have hx : x < D.n := hx
    simp only [DS.flush1]
    by_cases hxs : x = s
    · subst hxs
      rw [if_pos rfl]
      exact Blk.gets_putA_same hsl.symm (by rw [f2]; omega)
    · rw [if_neg hxs, Blk.gets_putA_ne (by rw [f2]; omega) (by omega)]
      exact f4 x hx
  · refine ⟨fun x => ?_, fun x hx => ?_, fun x hx => ?_, fun x y hx hy hxy => ?_⟩
    · rw [g3]
      by_cases hx : x = s
      · subst hx; simp [DS.flush1]
      · rw [if_neg (by omega), m3.has]; simp [DS.flush1, hx]
    · rw [g3, if_neg (by omega)]; exact m3.neg x hx
    · simp only [DS.flush1] at hx ⊢
      by_cases hxs : x = s
      · rw [if_pos hxs] at hx; exact absurd rfl hx
      · rw [if_neg hxs] at hx ⊢
        obtain ⟨b1, b2, b3, b4⟩ := m3.blk x hx
        exact ⟨by rw [hk _ (Heap.lt_of_get b1) b3 b4]; exact b1, b2, b3, b4⟩
    · simp only [DS.flush1] at hx hy
      by_cases hxs : x = s
      · rw [if_pos hxs] at hx; exact absurd rfl hx
      · rw [if_neg hxs] at hx
        by_cases hys : y = s
        · rw [if_pos hys] at hy; exact absurd rfl hy
        · rw [if_neg hys] at hy
          exact m3.inj x y hx hy hxy
  · simp only [DS.flush1]
    split
    · exact hsec
    · exact h1 x hx
  · simp only [DS.flush1] at hl
    split at hl
    · cases hl
    · exact h2 x l hl
  · simp only [DS.flush1]
    split
    · rfl
    · exact h3 x hx
  · simp only [DS.flush1]
    split
    · simp
    · exact h4 x
theorem flush_bad {h : Heap} {R W : Set'} {bd : Nat} {L : DL} {D : DS} (hd : DiskAt h bd L D) (hR : R bd) {a m : Int} (hb : m < 0 ∨ a < 0 ∨ a > D.n ∨ m > D.n - a) (ha' : -9223372036854775808 ≤ a ∧ a ≤ 9223372036854775807) : SF Try.prog 14 [.ptr (some (bd, 0)), .int .i64 a, .int .i64 m] h R W fun v h' => v = .int .i64 2 ∧ h' = h := by
  obtain ⟨c, h1, sz, ro, c0, c1, c2⟩ := hd.d
  have hp := hd.pos
  refine SF.go hm Try.func14 ir14_eq ?_
  simp -implicitDefEqProofs (disch := (first | omega | (simp -implicitDefEqProofs only [szs, ne_eq] <;> omega) | fail)) only [go_sem, Nat.reduceAdd, Nat.reduceSub, Nat.reduceMul, Nat.reduceLT, Nat.reduceMod, Nat.reduceDiv, Nat.reduceEqDiff, Nat.reduceBEq, Nat.reduceLeDiff, ↓reduceIte, reduceCtorEq, Int.reduceAdd, Int.reduceSub, Int.reduceLT, Int.reduceLE, Int.reduceBEq, Int.reduceEq, Int.reduceToNat, ir14]
  refine GCall.of (there_ok hd (.inr hR)) ?_
  rintro v h' ⟨rfl, rfl⟩
  by_cases e1 : m < 0
  · simp -implicitDefEqProofs (disch := (first | omega | (simp -implicitDefEqProofs only [szs, ne_eq] <;> omega) | fail)) only [go_sem, Nat.reduceAdd, Nat.reduceSub, Nat.reduceMul, Nat.reduceLT, Nat.reduceMod, Nat.reduceDiv, Nat.reduceEqDiff, Nat.reduceBEq, Nat.reduceLeDiff, ↓reduceIte, reduceCtorEq, Int.reduceAdd, Int.reduceSub, Int.reduceLT, Int.reduceLE, Int.reduceBEq, Int.reduceEq, Int.reduceToNat, undefV]
  · by_cases e2 : a < 0
    · simp -implicitDefEqProofs (disch := (first | omega | (simp -implicitDefEqProofs only [szs, ne_eq] <;> omega) | fail)) only [go_sem, Nat.reduceAdd, Nat.reduceSub, Nat.reduceMul, Nat.reduceLT, Nat.reduceMod, Nat.reduceDiv, Nat.reduceEqDiff, Nat.reduceBEq, Nat.reduceLeDiff, ↓reduceIte, reduceCtorEq, Int.reduceAdd, Int.reduceSub, Int.reduceLT, Int.reduceLE, Int.reduceBEq, Int.reduceEq, Int.reduceToNat, undefV]
    · by_cases e3 : a > D.n
      · simp -implicitDefEqProofs (disch := (first | omega | (simp -implicitDefEqProofs only [szs, ne_eq] <;> omega) | fail)) only [go_sem, Nat.reduceAdd, Nat.reduceSub, Nat.reduceMul, Nat.reduceLT, Nat.reduceMod, Nat.reduceDiv, Nat.reduceEqDiff, Nat.reduceBEq, Nat.reduceLeDiff, ↓reduceIte, reduceCtorEq, Int.reduceAdd, Int.reduceSub, Int.reduceLT, Int.reduceLE, Int.reduceBEq, Int.reduceEq, Int.reduceToNat, undefV, h1, c0, hR]
      · simp -implicitDefEqProofs (disch := (first | omega | (simp -implicitDefEqProofs only [szs, ne_eq] <;> omega) | fail)) only [go_sem, Nat.reduceAdd, Nat.reduceSub, Nat.reduceMul, Nat.reduceLT, Nat.reduceMod, Nat.reduceDiv, Nat.reduceEqDiff, Nat.reduceBEq, Nat.reduceLeDiff, ↓reduceIte, reduceCtorEq, Int.reduceAdd, Int.reduceSub, Int.reduceLT, Int.reduceLE, Int.reduceBEq, Int.reduceEq, Int.reduceToNat, undefV, h1, c0, hR]
set_option maxHeartbeats 1000000 in
theorem flush_ok {h : Heap} {R W : Set'} {bd : Nat} {L : DL} {D : DS} (hd : DiskAt h bd L D) (hR : ∀ b, Foot bd L D b → R b) (hW : ∀ b, Foot bd L D b → W b) {a m : Nat} (ham : a + m ≤ D.n) :
    SF Try.prog 14 [.ptr (some (bd, 0)), .int .i64 a, .int .i64 m] h R W fun v h' => v = .int .i64 0 ∧ DiskAt h' bd L (D.flush a m) := by
  obtain ⟨c, h1, sz, ro, c0, c1, c2⟩ := hd.d
  have hp := hd.pos
  have hR1 := hR bd (.inl rfl)
  have hR2 := hR L.fb (.inr (.inl rfl))
  have hR3 := hR L.mb (.inr (.inr (.inl rfl)))
  have hW2 := hW L.fb (.inr (.inl rfl))
  have hW3 := hW L.mb (.inr (.inr (.inl rfl)))
  refine SF.go hm Try.func14 ir14_eq ?_
  simp -implicitDefEqProofs (disch := (first | omega | (simp -implicitDefEqProofs only [szs, ne_eq] <;> omega) | fail)) only [go_sem, Nat.reduceAdd, Nat.reduceSub, Nat.reduceMul, Nat.reduceLT, Nat.reduceMod, Nat.reduceDiv, Nat.reduceEqDiff, Nat.reduceBEq, Nat.reduceLeDiff, ↓reduceIte, reduceCtorEq, Int.reduceAdd, Int.reduceSub, Int.reduceLT, Int.reduceLE, Int.reduceBEq, Int.reduceEq, Int.reduceToNat, ir14]
  refine GCall.of (there_ok hd (.inr hR1)) ?_
  rintro v h' ⟨rfl, rfl⟩
  simp -implicitDefEqProofs (disch := (first | omega | (simp -implicitDefEqProofs only [szs, ne_eq] <;> omega) | fail)) only [go_sem, Nat.reduceAdd, Nat.reduceSub, Nat.reduceMul, Nat.reduceLT, Nat.reduceMod, Nat.reduceDiv, Nat.reduceEqDiff, Nat.reduceBEq, Nat.reduceLeDiff, ↓reduceIte, reduceCtorEq, Int.reduceAdd, Int.reduceSub, Int.reduceLT, Int.reduceLE, Int.reduceBEq, Int.reduceEq, Int.reduceToNat, undefV, h1, c0, hR1]
  refine GLoop.inv hm (fun k f g => f.mks = [] ∧ f.tm.n = 61 ∧ f.tm.get 0 = some (.ptr (some (bd, 0))) ∧ f.tm.get 1 = some (.int .i64 a) ∧ f.tm.get 2 = some (.int .i64 m) ∧ ∃ j : Nat, j + k = m ∧ f.tm.get 7 = some (.int .i64 (a + j : Nat)) ∧ h'.n ≤ g.n ∧ DiskAt g bd L (D.flush a j)) m ?_ ?_
  · exact ⟨rfl, rfl, by simp -implicitDefEqProofs (disch := (first | omega | (simp -implicitDefEqProofs only [szs, ne_eq] <;> omega) | fail)) only [go_sem, Nat.reduceAdd, Nat.reduceSub, Nat.reduceMul, Nat.reduceLT, Nat.reduceMod, Nat.reduceDiv, Nat.reduceEqDiff, Nat.reduceBEq, Nat.reduceLeDiff, ↓reduceIte, reduceCtorEq, Int.reduceAdd, Int.reduceSub, Int.reduceLT, Int.reduceLE, Int.reduceBEq, Int.reduceEq, Int.reduceToNat], by simp -implicitDefEqProofs (disch := (first | omega | (simp -implicitDefEqProofs only [szs, ne_eq] <;> omega) | fail)) only [go_sem, Nat.reduceAdd, Nat.reduceSub, Nat.reduceMul, Nat.reduceLT, Nat.reduceMod, Nat.reduceDiv, Nat.reduceEqDiff, Nat.reduceBEq, Nat.reduceLeDiff, ↓reduceIte, reduceCtorEq, Int.reduceAdd, Int.reduceSub, Int.reduceLT, Int.reduceLE, Int.reduceBEq, Int.reduceEq, Int.reduceToNat], by simp -implicitDefEqProofs (disch := (first | omega | (simp -implicitDefEqProofs only [szs, ne_eq] <;> omega) | fail)) only [go_sem, Nat.reduceAdd, Nat.reduceSub, Nat.reduceMul, Nat.reduceLT, Nat.reduceMod, Nat.reduceDiv, Nat.reduceEqDiff, Nat.reduceBEq, Nat.reduceLeDiff, ↓reduceIte, reduceCtorEq, Int.reduceAdd, Int.reduceSub, Int.reduceLT, Int.reduceLE, Int.reduceBEq, Int.reduceEq, Int.reduceToNat], 0, by omega, by simp -implicitDefEqProofs (disch := (first | omega | (simp -implicitDefEqProofs only [szs, ne_eq] <;> omega) | fail)) only [go_sem, Nat.reduceAdd, Nat.reduceSub, Nat.reduceMul, Nat.reduceLT, Nat.reduceMod, Nat.reduceDiv, Nat.reduceEqDiff, Nat.reduceBEq, Nat.reduceLeDiff, ↓reduceIte, reduceCtorEq, Int.reduceAdd, Int.reduceSub, Int.reduceLT, Int.reduceLE, Int.reduceBEq, Int.reduceEq, Int.reduceToNat], Nat.le_refl _, by rw [DS.flush_zero]; exact hd⟩
  · rintro k ⟨⟨n', tr⟩, mks⟩ g ⟨hmk, hn', t0, t1, t2, j, hj, t7, hgn, hdj⟩
    simp only [Tm.get_mk] at hmk hn' t0 t1 t2 t7
    subst hmk hn'
    by_cases hjm : j < m
    · obtain ⟨cg, k1, ksz, kro, k0, kk1, kk2⟩ := hdj.d
      have hN := secN_eq
      have hsj : a + j < D.n := by omega
      have hsec := hdj.seen (s := a + j) hsj
      have hFt : ∀ b, Foot bd L (D.flush a j) b → Foot bd L D b := fun b hb => Foot.flush hb
      simp -implicitDefEqProofs (disch := (first | omega | (simp -implicitDefEqProofs only [szs, ne_eq] <;> omega) | fail)) only [go_sem, Nat.reduceAdd, Nat.reduceSub, Nat.reduceMul, Nat.reduceLT, Nat.reduceMod, Nat.reduceDiv, Nat.reduceEqDiff, Nat.reduceBEq, Nat.reduceLeDiff, ↓reduceIte, reduceCtorEq, Int.reduceAdd, Int.reduceSub, Int.reduceLT, Int.reduceLE, Int.reduceBEq, Int.reduceEq, Int.reduceToNat, ir14_l0, t0, t1, t2, t7, k1, k0, hR1]
      refine GCallD.of (R' := Foot bd L (D.flush a j)) (W' := fun _ => False) (seen_ok hdj (fun b hb => hb) (s := a + j) hsj) ?_
      rintro v g2 ⟨rfl, hn2, hold⟩
      have hd2 := hdj.old hold
      have hsucc := DS.flush_succ D a j
      have hn3 : (D.flush a j).n = D.n := rfl
      obtain ⟨D2, hD2⟩ : ∃ D2, D2 = D.flush a j := ⟨_, rfl⟩
      rw [← hD2] at hdj hsec hFt hsucc hd2 hn3 k0 ⊢
      obtain ⟨cg2, q1, qsz, qro, q0, qq1, qq2⟩ := hd2.d
      obtain ⟨f, f1, fs, fro, fg⟩ := hd2.f
      obtain ⟨es, ck, m1, m2, m3⟩ := hd2.m
      have hone := hsec.one
      have hslen := hsec.1
      have hlf := Heap.lt_of_get f1
      have hlm := Heap.lt_of_get m1
      have hlb := Heap.lt_of_get q1
      have hne1 : bd ≠ L.fb := fun e => by rw [e, f1] at q1; cases q1
      have hne2 : bd ≠ L.mb := fun e => by rw [e, m1] at q1; cases q1
      have hne3 : L.mb ≠ L.fb := fun e => by rw [e, f1] at m1; cases m1
      obtain ⟨es', hu, u1, u2, u3⟩ := del_int (P := Try.prog) (t := 52) Try.underlying52 Try.underlying3 (h := g2.set L.fb (.cells (f.putA ((a + j) * 128) (D2.seen (a + j))) 67)) (r := L.mb) (es := es) (ck := ck) (by simp -implicitDefEqProofs (disch := (first | omega | (simp -implicitDefEqProofs only [szs, ne_eq] <;> omega) | fail)) only [go_sem, Nat.reduceAdd, Nat.reduceSub, Nat.reduceMul, Nat.reduceLT, Nat.reduceMod, Nat.reduceDiv, Nat.reduceEqDiff, Nat.reduceBEq, Nat.reduceLeDiff, ↓reduceIte, reduceCtorEq, Int.reduceAdd, Int.reduceSub, Int.reduceLT, Int.reduceLE, Int.reduceBEq, Int.reduceEq, Int.reduceToNat, m1]) m2 (a + j : Nat)
      simp -implicitDefEqProofs (disch := (first | omega | (simp -implicitDefEqProofs only [szs, ne_eq] <;> omega) | fail)) only [go_sem, Nat.reduceAdd, Nat.reduceSub, Nat.reduceMul, Nat.reduceLT, Nat.reduceMod, Nat.reduceDiv, Nat.reduceEqDiff, Nat.reduceBEq, Nat.reduceLeDiff, ↓reduceIte, reduceCtorEq, Int.reduceAdd, Int.reduceSub, Int.reduceLT, Int.reduceLE, Int.reduceBEq, Int.reduceEq, Int.reduceToNat, ir14_l0, t0, t1, t2, t7, q1, q0, qq1, hR1, hR3, hW2, hW3, f1, fs, fro, sz67, ↓hone, hslen, hu]
      refine ⟨?_, ⟨fun b _ hb => .inr (hR b (hFt b hb)), fun b _ hb => hb.elim⟩, k - 1, by omega, j + 1, by omega, by simp; omega, by omega, ?_⟩
      · have e0 : ∀ b, ¬ (g.n ≤ b ∧ b < g.n) := fun b => by omega
        simp only [List.not_mem_nil, or_false, false_or, and_false, false_and, false_implies, implies_true, not_false_eq_true, and_true, true_and, e0]
      · rw [← hsucc]
        refine hd2.flush1 (by omega) (fun b hb h1 h2 => by simp -implicitDefEqProofs (disch := (first | omega | (simp -implicitDefEqProofs only [szs, ne_eq] <;> omega) | fail)) only [go_sem, Nat.reduceAdd, Nat.reduceSub, Nat.reduceMul, Nat.reduceLT, Nat.reduceMod, Nat.reduceDiv, Nat.reduceEqDiff, Nat.reduceBEq, Nat.reduceLeDiff, ↓reduceIte, reduceCtorEq, Int.reduceAdd, Int.reduceSub, Int.reduceLT, Int.reduceLE, Int.reduceBEq, Int.reduceEq, Int.reduceToNat]) ⟨f, f1, by simp -implicitDefEqProofs (disch := (first | omega | (simp -implicitDefEqProofs only [szs, ne_eq] <;> omega) | fail)) only [go_sem, Nat.reduceAdd, Nat.reduceSub, Nat.reduceMul, Nat.reduceLT, Nat.reduceMod, Nat.reduceDiv, Nat.reduceEqDiff, Nat.reduceBEq, Nat.reduceLeDiff, ↓reduceIte, reduceCtorEq, Int.reduceAdd, Int.reduceSub, Int.reduceLT, Int.reduceLE, Int.reduceBEq, Int.reduceEq, Int.reduceToNat]⟩ ⟨es, ck, es', m1, by simp -implicitDefEqProofs (disch := (first | omega | (simp -implicitDefEqProofs only [szs, ne_eq] <;> omega) | fail)) only [go_sem, Nat.reduceAdd, Nat.reduceSub, Nat.reduceMul, Nat.reduceLT, Nat.reduceMod, Nat.reduceDiv, Nat.reduceEqDiff, Nat.reduceBEq, Nat.reduceLeDiff, ↓reduceIte, reduceCtorEq, Int.reduceAdd, Int.reduceSub, Int.reduceLT, Int.reduceLE, Int.reduceBEq, Int.reduceEq, Int.reduceToNat], u1, fun x => u2 x⟩
    · have : j = m := by omega
      subst this
      simp -implicitDefEqProofs (disch := (first | omega | (simp -implicitDefEqProofs only [szs, ne_eq] <;> omega) | fail)) only [go_sem, Nat.reduceAdd, Nat.reduceSub, Nat.reduceMul, Nat.reduceLT, Nat.reduceMod, Nat.reduceDiv, Nat.reduceEqDiff, Nat.reduceBEq, Nat.reduceLeDiff, ↓reduceIte, reduceCtorEq, Int.reduceAdd, Int.reduceSub, Int.reduceLT, Int.reduceLE, Int.reduceBEq, Int.reduceEq, Int.reduceToNat, ir14_l0, t0, t1, t2, t7]
      exact hdj
end Go.Proofs.Ytgkcbpagdfdpdaa
