/- A disk: New, seen, Read, Flushed, Pending. -/
import Derived.Test.YtgkcbpagdfdpdaaA
set_option linter.unusedVariables false
set_option linter.unusedSimpArgs false
set_option linter.unusedSimpArgs false
set_option maxRecDepth 100000
set_option linter.unusedVariables false
set_option linter.unusedSimpArgs false
namespace Go.Proofs.Ytgkcbpagdfdpdaa
open Go Go.Vm
attribute [-go_sem] sz_67
theorem zv_51 : zeroV Try.prog 51 = some (.slice none 0 0 true) := by kernel_rfl
theorem zv_67 : zeroV Try.prog 67 = some (.agg ze_67) := by kernel_rfl
theorem ze_eq : ze_67 = List.replicate secN (.int .u8 0) := by kernel_rfl
theorem ze_sec : IsSec ze_67 := by
  rw [ze_eq]
  refine ⟨by simp, fun v hv => ⟨0, (List.mem_replicate.1 hv).2, by omega, by omega⟩⟩
theorem flat_len {ll : List (List V)} (h : ∀ l ∈ ll, IsSec l) : ll.flatten.length = ll.length * 128 := by
  induction ll with
  | nil => rfl
  | cons a r ih =>
    rw [List.flatten_cons, List.length_append, ih fun l hl => h l (by simp [hl]), (h a (by simp)).1, List.length_cons]
    have := secN_eq; omega
theorem flat_get : ∀ {ll : List (List V)}, (∀ l ∈ ll, IsSec l) → ∀ {i : Nat} {l : List V}, ll[i]? = some l → ∀ {j : Nat}, j < 128 → ll.flatten.getD (i * 128 + j) undefV = l.getD j undefV
  | [], _, i, l, h, j, _ => by simp at h
  | a :: r, hs, 0, l, h, j, hj => by
    simp at h; subst h
    have := (hs a (by simp)).1
    have hN := secN_eq
    rw [List.flatten_cons, Nat.zero_mul, Nat.zero_add, List.getD_eq_getElem?_getD, List.getD_eq_getElem?_getD, List.getElem?_append_left (by omega)]
  | a :: r, hs, i + 1, l, h, j, hj => by
    have := (hs a (by simp)).1
    have hN := secN_eq
    rw [List.flatten_cons, List.getD_eq_getElem?_getD, List.getElem?_append_right (by omega), show (i + 1) * 128 + j - a.length = i * 128 + j by omega, ← List.getD_eq_getElem?_getD]
    exact flat_get (fun l hl => hs l (by simp [hl])) (by simpa using h) hj
theorem flat_gets {ll : List (List V)} (hs : ∀ l ∈ ll, IsSec l) {i : Nat} {l : List V} (h : ll[i]? = some l) : (Blk.of ll.flatten).gets (i * 128) secN = l := by
  have hl := hs l (List.mem_of_getElem? h)
  have hi := (List.getElem?_eq_some_iff.1 h).1
  have hN := secN_eq
  refine Blk.gets_ext (fun j hj => ?_) (by rw [hl.1])
  rw [hl.1] at hj
  rw [Blk.get_of _ _ (by rw [flat_len hs]; omega), flat_get hs h (by omega)]
def DS.seen (D : DS) (s : Nat) : List V := match (D.pe s).getLast? with
  | some l => l
  | none => D.fl s
theorem DS.seen_nil {D : DS} {s : Nat} (h : D.pe s = []) : D.seen s = D.fl s := by simp [DS.seen, h]
theorem DS.seen_get {D : DS} {s : Nat} (h : D.pe s ≠ []) : (D.pe s)[(D.pe s).length - 1]? = some (D.seen s) := by
  unfold DS.seen
  rw [List.getLast?_eq_getElem?]
  have : (D.pe s).length - 1 < (D.pe s).length := by
    have := List.length_pos_iff.2 h; omega
  rw [List.getElem?_eq_getElem this]
theorem DiskAt.seen {h : Heap} {bd : Nat} {L : DL} {D : DS} (hd : DiskAt h bd L D) {s : Nat} (hs : s < D.n) : IsSec (D.seen s) := by
  by_cases he : D.pe s = []
  · rw [DS.seen_nil he]; exact hd.fl s hs
  · exact hd.pe s _ (List.mem_of_getElem? (DS.seen_get he))
/-- What a disk lies in. -/
def Foot (bd : Nat) (L : DL) (D : DS) : Set' := fun b => b = bd ∨ b = L.fb ∨ b = L.mb ∨ ∃ x, D.pe x ≠ [] ∧ b = L.pb x
theorem PendAt.same {h h' : Heap} {bd : Nat} {L : DL} {D : DS} {es : Ents} (hp : PendAt h bd L D es) (hk : ∀ b, Foot bd L D b → b < h.n → h'.get b = h.get b) : PendAt h' bd L D es :=
  ⟨hp.has, hp.neg, fun x hx => ⟨by rw [hk _ (.inr (.inr (.inr ⟨x, hx, rfl⟩))) (Heap.lt_of_get (hp.blk x hx).1)]; exact (hp.blk x hx).1, (hp.blk x hx).2⟩, hp.inj⟩
theorem DiskAt.same {h h' : Heap} {bd : Nat} {L : DL} {D : DS} (hd : DiskAt h bd L D) (hk : ∀ b, Foot bd L D b → b < h.n → h'.get b = h.get b) : DiskAt h' bd L D := by
  obtain ⟨hp, ⟨c, d1, d2⟩, ⟨f, f1, f2⟩, ⟨es, ck, m1, m2, m3⟩, h1, h2, h3, h4⟩ := hd
  exact ⟨hp, ⟨c, by rw [hk _ (.inl rfl) (Heap.lt_of_get d1)]; exact d1, d2⟩, ⟨f, by rw [hk _ (.inr (.inl rfl)) (Heap.lt_of_get f1)]; exact f1, f2⟩, ⟨es, ck, by rw [hk _ (.inr (.inr (.inl rfl))) (Heap.lt_of_get m1)]; exact m1, m2, m3.same hk⟩, h1, h2, h3, h4⟩
theorem DiskAt.old {h h' : Heap} {bd : Nat} {L : DL} {D : DS} (hd : DiskAt h bd L D) (hk : ∀ b, b < h.n → h'.get b = h.get b) : DiskAt h' bd L D := hd.same fun b _ hb => hk b hb
theorem DiskAt.push {h : Heap} {bd : Nat} {L : DL} {D : DS} (hd : DiskAt h bd L D) (o : O) : DiskAt (h.push o) bd L D := hd.old fun b hb => by rw [Heap.get_push, if_neg (by omega)]
theorem DiskAt.lt {h : Heap} {bd : Nat} {L : DL} {D : DS} (hd : DiskAt h bd L D) : ∀ b, Foot bd L D b → b < h.n := by
  obtain ⟨hp, ⟨c, d1, d2⟩, ⟨f, f1, f2⟩, ⟨es, ck, m1, m2, m3⟩, h1, h2, h3, h4⟩ := hd
  rintro b (rfl | rfl | rfl | ⟨x, hx, rfl⟩)
  · exact Heap.lt_of_get d1
  · exact Heap.lt_of_get f1
  · exact Heap.lt_of_get m1
  · exact Heap.lt_of_get (m3.blk x hx).1
noncomputable def DS.new (n : Nat) : DS := ⟨n, fun _ => ze_67, fun _ => [], 0⟩
theorem rep_get (n : Nat) (z : List V) (i : Nat) : (Blk.rep n z).get i = z.getD (i % z.length) undefV := by simp [Blk.get, layGet, Blk.rep, Tr.get_nil]
theorem rep_gets {n s : Nat} : (Blk.rep (n * 128) ze_67).gets (s * 128) secN = ze_67 := by
  have hl := zel_67
  have hN := secN_eq
  refine Blk.gets_ext (fun j hj => ?_) (by omega)
  rw [rep_get, show (s * 128 + j) % ze_67.length = j by rw [hl]; omega]
theorem new_ok {h : Heap} {R W : Set'} {n : Int} (hn : 1 ≤ n ∧ n ≤ 4096) : SF Try.prog 10 [.int .i64 n] h R W fun v h' => ∃ L : DL, v = .tuple [.ptr (some (h.n + 2, 0)), .int .i64 0] ∧ h.n ≤ L.fb ∧ h.n ≤ L.mb ∧ DiskAt h' (h.n + 2) L (DS.new n.toNat) := by
  have hc : 0 ≤ n ∧ n ≤ n ∧ 128 * n.toNat ≤ 281474976710656 ∧ n ≤ 9223372036854775807 := by omega
  refine SF.go hm Try.func10 ir10_eq ?_
  simp -implicitDefEqProofs (disch := (first | omega | (simp -implicitDefEqProofs only [szs, ne_eq] <;> omega) | fail)) only [go_sem, Nat.reduceAdd, Nat.reduceSub, Nat.reduceMul, Nat.reduceLT, Nat.reduceMod, Nat.reduceDiv, Nat.reduceEqDiff, Nat.reduceBEq, Nat.reduceLeDiff, ↓reduceIte, reduceCtorEq, Int.reduceAdd, Int.reduceSub, Int.reduceLT, Int.reduceLE, Int.reduceBEq, Int.reduceEq, Int.reduceToNat, ir10, hc]
  refine ⟨⟨h.n, h.n + 1, fun _ => 0, n.toNat, true⟩, Nat.le_refl _, Nat.le_succ _, ?_⟩
  · have hl := zel_67
    refine ⟨by simp only [DS.new]; omega, ⟨Blk.of [V.slice (some (h.n, 0)) n.toNat n.toNat true, V.map (some (h.n + 1)), V.int IntKind.i64 0], by simp -implicitDefEqProofs (disch := (first | omega | (simp -implicitDefEqProofs only [szs, ne_eq] <;> omega) | fail)) only [go_sem, Nat.reduceAdd, Nat.reduceSub, Nat.reduceMul, Nat.reduceLT, Nat.reduceMod, Nat.reduceDiv, Nat.reduceEqDiff, Nat.reduceBEq, Nat.reduceLeDiff, ↓reduceIte, reduceCtorEq, Int.reduceAdd, Int.reduceSub, Int.reduceLT, Int.reduceLE, Int.reduceBEq, Int.reduceEq, Int.reduceToNat], rfl, rfl, rfl, rfl, rfl⟩, ⟨Blk.rep (n.toNat * 128) ze_67, by simp -implicitDefEqProofs (disch := (first | omega | (simp -implicitDefEqProofs only [szs, ne_eq] <;> omega) | fail)) only [go_sem, Nat.reduceAdd, Nat.reduceSub, Nat.reduceMul, Nat.reduceLT, Nat.reduceMod, Nat.reduceDiv, Nat.reduceEqDiff, Nat.reduceBEq, Nat.reduceLeDiff, ↓reduceIte, reduceCtorEq, Int.reduceAdd, Int.reduceSub, Int.reduceLT, Int.reduceLE, Int.reduceBEq, Int.reduceEq, Int.reduceToNat], rfl, rfl, fun s _ => rep_gets⟩, ⟨[], 0, by simp -implicitDefEqProofs (disch := (first | omega | (simp -implicitDefEqProofs only [szs, ne_eq] <;> omega) | fail)) only [go_sem, Nat.reduceAdd, Nat.reduceSub, Nat.reduceMul, Nat.reduceLT, Nat.reduceMod, Nat.reduceDiv, Nat.reduceEqDiff, Nat.reduceBEq, Nat.reduceLeDiff, ↓reduceIte, reduceCtorEq, Int.reduceAdd, Int.reduceSub, Int.reduceLT, Int.reduceLE, Int.reduceBEq, Int.reduceEq, Int.reduceToNat], IMap.nil, ⟨fun x => ?_, fun x _ => rfl, fun x hx => absurd rfl hx, fun x y hx => absurd rfl hx⟩⟩, fun s _ => ze_sec, fun s l hl => by simp [DS.new] at hl, fun s _ => rfl, fun s => by simp [DS.new]⟩
    simp [DS.new, getI]
theorem new_bad {h : Heap} {R W : Set'} {n : Int} (hn : ¬ (1 ≤ n ∧ n ≤ 4096)) : SF Try.prog 10 [.int .i64 n] h R W fun v h' => v = .tuple [.ptr none, .int .i64 2] ∧ h' = h := by
  refine SF.go hm Try.func10 ir10_eq ?_
  by_cases h1 : n < 1
  · simp -implicitDefEqProofs (disch := (first | omega | (simp -implicitDefEqProofs only [szs, ne_eq] <;> omega) | fail)) only [go_sem, Nat.reduceAdd, Nat.reduceSub, Nat.reduceMul, Nat.reduceLT, Nat.reduceMod, Nat.reduceDiv, Nat.reduceEqDiff, Nat.reduceBEq, Nat.reduceLeDiff, ↓reduceIte, reduceCtorEq, Int.reduceAdd, Int.reduceSub, Int.reduceLT, Int.reduceLE, Int.reduceBEq, Int.reduceEq, Int.reduceToNat, ir10, undefV]
  · simp -implicitDefEqProofs (disch := (first | omega | (simp -implicitDefEqProofs only [szs, ne_eq] <;> omega) | fail)) only [go_sem, Nat.reduceAdd, Nat.reduceSub, Nat.reduceMul, Nat.reduceLT, Nat.reduceMod, Nat.reduceDiv, Nat.reduceEqDiff, Nat.reduceBEq, Nat.reduceLeDiff, ↓reduceIte, reduceCtorEq, Int.reduceAdd, Int.reduceSub, Int.reduceLT, Int.reduceLE, Int.reduceBEq, Int.reduceEq, Int.reduceToNat, ir10, undefV]
/-- What the map answers. -/
theorem DiskAt.look {h : Heap} {bd : Nat} {L : DL} {D : DS} (hd : DiskAt h bd L D) (s : Nat) : lookV Try.prog 52 h (.map (some L.mb)) (.int .i64 s) false = some (if D.pe s = [] then .slice none 0 0 true else .slice (some (L.pb s, 0)) (D.pe s).length (D.pe s).length false, [L.mb]) := by
  obtain ⟨es, ck, m1, m2, m3⟩ := hd.m
  rw [look_int Try.underlying52 Try.underlying3 zv_51 m1 m2, m3.has]
  split <;> rfl
theorem seen_ok {h : Heap} {R W : Set'} {bd : Nat} {L : DL} {D : DS} (hd : DiskAt h bd L D) (hR : ∀ b, Foot bd L D b → R b) {s : Nat} (hs : s < D.n) : SF Try.prog 30 [.ptr (some (bd, 0)), .int .i64 s] h R W fun v h' => v = .agg (D.seen s) ∧ h'.n = h.n + 1 ∧ ∀ b, b < h.n → h'.get b = h.get b := by
  have hz : h.get bd ≠ none := by obtain ⟨c, e, _⟩ := hd.d; rw [e]; simp
  have hd2 := hd.push (.cells (Blk.of ze_67) 67)
  have hl := hd2.look s
  obtain ⟨c, h1, sz, _, c0, c1, c2⟩ := hd2.d
  obtain ⟨f, f1, fs, _, fg⟩ := hd2.f
  have hR1 := hR bd (.inl rfl)
  have hR2 := hR L.fb (.inr (.inl rfl))
  have hR3 := hR L.mb (.inr (.inr (.inl rfl)))
  have hsec := hd.seen hs
  have hN := secN_eq
  have hone := hsec.one
  have hslen := hsec.1
  have zl := zel_67
  refine SF.go hm Try.func30 ir30_eq ?_
  by_cases he : D.pe s = []
  · rw [if_pos he] at hl
    have hse := DS.seen_nil he
    rw [hse] at hslen hone ⊢
    have hps : ((Blk.of ze_67).putA 0 (D.fl s)).gets 0 secN = D.fl s := Blk.gets_putA_same hslen.symm (by rw [w_of_size]; omega)
    simp -implicitDefEqProofs (disch := (first | omega | (simp -implicitDefEqProofs only [szs, ne_eq] <;> omega) | fail)) only [go_sem, Nat.reduceAdd, Nat.reduceSub, Nat.reduceMul, Nat.reduceLT, Nat.reduceMod, Nat.reduceDiv, Nat.reduceEqDiff, Nat.reduceBEq, Nat.reduceLeDiff, ↓reduceIte, reduceCtorEq, Int.reduceAdd, Int.reduceSub, Int.reduceLT, Int.reduceLE, Int.reduceBEq, Int.reduceEq, Int.reduceToNat, ir30, zv_67, h1, c0, c1, hl, hR1, hR2, hR3, f1, fs, fg, sz67, undefV, ↓hone, hps]
    intro b hb
    simp -implicitDefEqProofs (disch := (first | omega | (simp -implicitDefEqProofs only [szs, ne_eq] <;> omega) | fail)) only [go_sem, Nat.reduceAdd, Nat.reduceSub, Nat.reduceMul, Nat.reduceLT, Nat.reduceMod, Nat.reduceDiv, Nat.reduceEqDiff, Nat.reduceBEq, Nat.reduceLeDiff, ↓reduceIte, reduceCtorEq, Int.reduceAdd, Int.reduceSub, Int.reduceLT, Int.reduceLE, Int.reduceBEq, Int.reduceEq, Int.reduceToNat]
  · rw [if_neg he] at hl
    obtain ⟨es, ck, _, _, hpd⟩ := hd2.m
    have hp0 := List.length_pos_iff.2 he
    have hto : (((D.pe s).length : Int) - 1).toNat = (D.pe s).length - 1 := by omega
    have hfew := hd.few s
    have hbk := (hpd.blk s he).1
    have hfl := flat_len (hd.pe s)
    have hgs := flat_gets (hd.pe s) (DS.seen_get he)
    have hR4 := hR (L.pb s) (.inr (.inr (.inr ⟨s, he, rfl⟩)))
    have hps : ((Blk.of ze_67).putA 0 (D.seen s)).gets 0 secN = D.seen s := Blk.gets_putA_same hslen.symm (by rw [w_of_size]; omega)
    simp -implicitDefEqProofs (disch := (first | omega | (simp -implicitDefEqProofs only [szs, ne_eq] <;> omega) | fail)) only [go_sem, Nat.reduceAdd, Nat.reduceSub, Nat.reduceMul, Nat.reduceLT, Nat.reduceMod, Nat.reduceDiv, Nat.reduceEqDiff, Nat.reduceBEq, Nat.reduceLeDiff, ↓reduceIte, reduceCtorEq, Int.reduceAdd, Int.reduceSub, Int.reduceLT, Int.reduceLE, Int.reduceBEq, Int.reduceEq, Int.reduceToNat, ir30, zv_67, h1, c0, c1, hl, hR1, hR2, hR3, hR4, hbk, hfl, hto, hgs, sz67, undefV, ↓hone, hps]
    intro b hb
    simp -implicitDefEqProofs (disch := (first | omega | (simp -implicitDefEqProofs only [szs, ne_eq] <;> omega) | fail)) only [go_sem, Nat.reduceAdd, Nat.reduceSub, Nat.reduceMul, Nat.reduceLT, Nat.reduceMod, Nat.reduceDiv, Nat.reduceEqDiff, Nat.reduceBEq, Nat.reduceLeDiff, ↓reduceIte, reduceCtorEq, Int.reduceAdd, Int.reduceSub, Int.reduceLT, Int.reduceLE, Int.reduceBEq, Int.reduceEq, Int.reduceToNat]
/-- A sector in a place of its own. -/
def SecAt (h : Heap) (b : Nat) (l : List V) : Prop := ∃ c, h.get b = some (.cells c 67) ∧ c.size = 128 ∧ c.ro = false ∧ c.gets 0 secN = l
theorem read_ok {h : Heap} {R W : Set'} {bd : Nat} {L : DL} {D : DS} (hd : DiskAt h bd L D) (hR : ∀ b, Foot bd L D b → R b) {s : Nat} (hs : s < D.n) : SF Try.prog 35 [.ptr (some (bd, 0)), .int .i64 s] h R W fun v h' => ∃ b, v = .tuple [.slice (some (b, 0)) 128 128 true, .int .i64 0] ∧ SecAt h' b (D.seen s) ∧ h.n ≤ b ∧ b < h'.n ∧ ∀ b, b < h.n → h'.get b = h.get b := by
  have hsec := hd.seen hs
  have hN := secN_eq
  have hone := hsec.one
  have hslen := hsec.1
  have zl := zel_67
  refine SF.go hm Try.func35 ir35_eq ?_
  simp -implicitDefEqProofs (disch := (first | omega | (simp -implicitDefEqProofs only [szs, ne_eq] <;> omega) | fail)) only [go_sem, Nat.reduceAdd, Nat.reduceSub, Nat.reduceMul, Nat.reduceLT, Nat.reduceMod, Nat.reduceDiv, Nat.reduceEqDiff, Nat.reduceBEq, Nat.reduceLeDiff, ↓reduceIte, reduceCtorEq, Int.reduceAdd, Int.reduceSub, Int.reduceLT, Int.reduceLE, Int.reduceBEq, Int.reduceEq, Int.reduceToNat, ir35]
  refine GCall.of (ask_ok hd (.inr (hR bd (.inl rfl))) s) ?_
  rintro v h' ⟨rfl, rfl⟩
  have ha : askV D s = 0 := if_pos ⟨by omega, by omega⟩
  rw [ha]
  simp -implicitDefEqProofs (disch := (first | omega | (simp -implicitDefEqProofs only [szs, ne_eq] <;> omega) | fail)) only [go_sem, Nat.reduceAdd, Nat.reduceSub, Nat.reduceMul, Nat.reduceLT, Nat.reduceMod, Nat.reduceDiv, Nat.reduceEqDiff, Nat.reduceBEq, Nat.reduceLeDiff, ↓reduceIte, reduceCtorEq, Int.reduceAdd, Int.reduceSub, Int.reduceLT, Int.reduceLE, Int.reduceBEq, Int.reduceEq, Int.reduceToNat]
  refine GCall.of (seen_ok hd (fun b hb => .inr (hR b hb)) hs) ?_
  rintro v h2 ⟨rfl, hn2, hold⟩
  simp -implicitDefEqProofs (disch := (first | omega | (simp -implicitDefEqProofs only [szs, ne_eq] <;> omega) | fail)) only [go_sem, Nat.reduceAdd, Nat.reduceSub, Nat.reduceMul, Nat.reduceLT, Nat.reduceMod, Nat.reduceDiv, Nat.reduceEqDiff, Nat.reduceBEq, Nat.reduceLeDiff, ↓reduceIte, reduceCtorEq, Int.reduceAdd, Int.reduceSub, Int.reduceLT, Int.reduceLE, Int.reduceBEq, Int.reduceEq, Int.reduceToNat, zv_67, sz67, ↓hone]
  have hps : ((Blk.of ze_67).putA 0 (D.seen s)).gets 0 secN = D.seen s := Blk.gets_putA_same hslen.symm (by rw [w_of_size]; omega)
  refine ⟨.inl (by omega), h2.n, rfl, ⟨(Blk.of ze_67).putA 0 (D.seen s), by simp -implicitDefEqProofs (disch := (first | omega | (simp -implicitDefEqProofs only [szs, ne_eq] <;> omega) | fail)) only [go_sem, Nat.reduceAdd, Nat.reduceSub, Nat.reduceMul, Nat.reduceLT, Nat.reduceMod, Nat.reduceDiv, Nat.reduceEqDiff, Nat.reduceBEq, Nat.reduceLeDiff, ↓reduceIte, reduceCtorEq, Int.reduceAdd, Int.reduceSub, Int.reduceLT, Int.reduceLE, Int.reduceBEq, Int.reduceEq, Int.reduceToNat], by rw [Blk.size_putA, w_of_size]; exact zl, by rw [Blk.ro_putA, Blk.ro_of], hps⟩, by omega, by omega, fun b hb => ?_⟩
  simp -implicitDefEqProofs (disch := (first | omega | (simp -implicitDefEqProofs only [szs, ne_eq] <;> omega) | fail)) only [go_sem, Nat.reduceAdd, Nat.reduceSub, Nat.reduceMul, Nat.reduceLT, Nat.reduceMod, Nat.reduceDiv, Nat.reduceEqDiff, Nat.reduceBEq, Nat.reduceLeDiff, ↓reduceIte, reduceCtorEq, Int.reduceAdd, Int.reduceSub, Int.reduceLT, Int.reduceLE, Int.reduceBEq, Int.reduceEq, Int.reduceToNat, hold]
theorem read_bad {h : Heap} {R W : Set'} {bd : Nat} {L : DL} {D : DS} (hd : DiskAt h bd L D) (hR : R bd) {k : Int} (hs : ¬ (0 ≤ k ∧ k < D.n)) : SF Try.prog 35 [.ptr (some (bd, 0)), .int .i64 k] h R W fun v h' => v = .tuple [.slice none 0 0 true, .int .i64 2] ∧ h' = h := by
  refine SF.go hm Try.func35 ir35_eq ?_
  simp -implicitDefEqProofs (disch := (first | omega | (simp -implicitDefEqProofs only [szs, ne_eq] <;> omega) | fail)) only [go_sem, Nat.reduceAdd, Nat.reduceSub, Nat.reduceMul, Nat.reduceLT, Nat.reduceMod, Nat.reduceDiv, Nat.reduceEqDiff, Nat.reduceBEq, Nat.reduceLeDiff, ↓reduceIte, reduceCtorEq, Int.reduceAdd, Int.reduceSub, Int.reduceLT, Int.reduceLE, Int.reduceBEq, Int.reduceEq, Int.reduceToNat, ir35]
  refine GCall.of (ask_ok hd (.inr hR) k) ?_
  rintro v h' ⟨rfl, rfl⟩
  have ha : askV D k = 2 := if_neg hs
  rw [ha]
  simp -implicitDefEqProofs (disch := (first | omega | (simp -implicitDefEqProofs only [szs, ne_eq] <;> omega) | fail)) only [go_sem, Nat.reduceAdd, Nat.reduceSub, Nat.reduceMul, Nat.reduceLT, Nat.reduceMod, Nat.reduceDiv, Nat.reduceEqDiff, Nat.reduceBEq, Nat.reduceLeDiff, ↓reduceIte, reduceCtorEq, Int.reduceAdd, Int.reduceSub, Int.reduceLT, Int.reduceLE, Int.reduceBEq, Int.reduceEq, Int.reduceToNat]
theorem flushed_ok {h : Heap} {R W : Set'} {bd : Nat} {L : DL} {D : DS} (hd : DiskAt h bd L D) (hR : ∀ b, Foot bd L D b → R b) {s : Nat} (hs : s < D.n) : SF Try.prog 38 [.ptr (some (bd, 0)), .int .i64 s] h R W fun v h' => ∃ b, v = .tuple [.slice (some (b, 0)) 128 128 true, .int .i64 0] ∧ SecAt h' b (D.fl s) ∧ h.n ≤ b ∧ b < h'.n ∧ ∀ b, b < h.n → h'.get b = h.get b := by
  obtain ⟨c, h1, sz, _, c0, c1, c2⟩ := hd.d
  obtain ⟨f, f1, fs, _, fg⟩ := hd.f
  have hR1 := hR bd (.inl rfl)
  have hR2 := hR L.fb (.inr (.inl rfl))
  have hsec := hd.fl s hs
  have hN := secN_eq
  have hone := hsec.one
  have hslen := hsec.1
  have zl := zel_67
  refine SF.go hm Try.func38 ir38_eq ?_
  simp -implicitDefEqProofs (disch := (first | omega | (simp -implicitDefEqProofs only [szs, ne_eq] <;> omega) | fail)) only [go_sem, Nat.reduceAdd, Nat.reduceSub, Nat.reduceMul, Nat.reduceLT, Nat.reduceMod, Nat.reduceDiv, Nat.reduceEqDiff, Nat.reduceBEq, Nat.reduceLeDiff, ↓reduceIte, reduceCtorEq, Int.reduceAdd, Int.reduceSub, Int.reduceLT, Int.reduceLE, Int.reduceBEq, Int.reduceEq, Int.reduceToNat, ir38]
  refine GCall.of (ask_ok hd (.inr (hR bd (.inl rfl))) s) ?_
  rintro v h' ⟨rfl, rfl⟩
  have ha : askV D s = 0 := if_pos ⟨by omega, by omega⟩
  rw [ha]
  have hps : ((Blk.of ze_67).putA 0 (D.fl s)).gets 0 secN = D.fl s := Blk.gets_putA_same hslen.symm (by rw [w_of_size]; omega)
  have hlt1 := Heap.lt_of_get h1
  have hlt2 := Heap.lt_of_get f1
  simp -implicitDefEqProofs (disch := (first | omega | (simp -implicitDefEqProofs only [szs, ne_eq] <;> omega) | fail)) only [go_sem, Nat.reduceAdd, Nat.reduceSub, Nat.reduceMul, Nat.reduceLT, Nat.reduceMod, Nat.reduceDiv, Nat.reduceEqDiff, Nat.reduceBEq, Nat.reduceLeDiff, ↓reduceIte, reduceCtorEq, Int.reduceAdd, Int.reduceSub, Int.reduceLT, Int.reduceLE, Int.reduceBEq, Int.reduceEq, Int.reduceToNat, zv_67, sz67, ↓hone, h1, c0, f1, fs, fg, hR1, hR2]
  refine ⟨h'.n, rfl, ⟨(Blk.of ze_67).putA 0 (D.fl s), by simp -implicitDefEqProofs (disch := (first | omega | (simp -implicitDefEqProofs only [szs, ne_eq] <;> omega) | fail)) only [go_sem, Nat.reduceAdd, Nat.reduceSub, Nat.reduceMul, Nat.reduceLT, Nat.reduceMod, Nat.reduceDiv, Nat.reduceEqDiff, Nat.reduceBEq, Nat.reduceLeDiff, ↓reduceIte, reduceCtorEq, Int.reduceAdd, Int.reduceSub, Int.reduceLT, Int.reduceLE, Int.reduceBEq, Int.reduceEq, Int.reduceToNat], by rw [Blk.size_putA, w_of_size]; exact zl, by rw [Blk.ro_putA, Blk.ro_of], hps⟩, by omega, by omega, fun b hb => ?_⟩
  simp -implicitDefEqProofs (disch := (first | omega | (simp -implicitDefEqProofs only [szs, ne_eq] <;> omega) | fail)) only [go_sem, Nat.reduceAdd, Nat.reduceSub, Nat.reduceMul, Nat.reduceLT, Nat.reduceMod, Nat.reduceDiv, Nat.reduceEqDiff, Nat.reduceBEq, Nat.reduceLeDiff, ↓reduceIte, reduceCtorEq, Int.reduceAdd, Int.reduceSub, Int.reduceLT, Int.reduceLE, Int.reduceBEq, Int.reduceEq, Int.reduceToNat]
theorem pending_ok {h : Heap} {R W : Set'} {bd : Nat} {L : DL} {D : DS} (hd : DiskAt h bd L D) (hR : ∀ b, Foot bd L D b → R b) {s : Nat} (hs : s < D.n) : SF Try.prog 27 [.ptr (some (bd, 0)), .int .i64 s] h R W fun v h' => v = .int .i64 (D.pe s).length ∧ h' = h := by
  have hl := hd.look s
  obtain ⟨c, h1, sz, _, c0, c1, c2⟩ := hd.d
  have hR1 := hR bd (.inl rfl)
  have hR3 := hR L.mb (.inr (.inr (.inl rfl)))
  refine SF.go hm Try.func27 ir27_eq ?_
  simp -implicitDefEqProofs (disch := (first | omega | (simp -implicitDefEqProofs only [szs, ne_eq] <;> omega) | fail)) only [go_sem, Nat.reduceAdd, Nat.reduceSub, Nat.reduceMul, Nat.reduceLT, Nat.reduceMod, Nat.reduceDiv, Nat.reduceEqDiff, Nat.reduceBEq, Nat.reduceLeDiff, ↓reduceIte, reduceCtorEq, Int.reduceAdd, Int.reduceSub, Int.reduceLT, Int.reduceLE, Int.reduceBEq, Int.reduceEq, Int.reduceToNat, ir27]
  refine GCall.of (ask_ok hd (.inr (hR bd (.inl rfl))) s) ?_
  rintro v h' ⟨rfl, rfl⟩
  have ha : askV D s = 0 := if_pos ⟨by omega, by omega⟩
  rw [ha]
  by_cases he : D.pe s = []
  · rw [if_pos he] at hl
    simp -implicitDefEqProofs (disch := (first | omega | (simp -implicitDefEqProofs only [szs, ne_eq] <;> omega) | fail)) only [go_sem, Nat.reduceAdd, Nat.reduceSub, Nat.reduceMul, Nat.reduceLT, Nat.reduceMod, Nat.reduceDiv, Nat.reduceEqDiff, Nat.reduceBEq, Nat.reduceLeDiff, ↓reduceIte, reduceCtorEq, Int.reduceAdd, Int.reduceSub, Int.reduceLT, Int.reduceLE, Int.reduceBEq, Int.reduceEq, Int.reduceToNat, h1, c1, hl, hR1, hR3, he, Int.ofNat_zero]
  · rw [if_neg he] at hl
    simp -implicitDefEqProofs (disch := (first | omega | (simp -implicitDefEqProofs only [szs, ne_eq] <;> omega) | fail)) only [go_sem, Nat.reduceAdd, Nat.reduceSub, Nat.reduceMul, Nat.reduceLT, Nat.reduceMod, Nat.reduceDiv, Nat.reduceEqDiff, Nat.reduceBEq, Nat.reduceLeDiff, ↓reduceIte, reduceCtorEq, Int.reduceAdd, Int.reduceSub, Int.reduceLT, Int.reduceLE, Int.reduceBEq, Int.reduceEq, Int.reduceToNat, h1, c1, hl, hR1, hR3]
end Go.Proofs.Ytgkcbpagdfdpdaa
