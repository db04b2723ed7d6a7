/- do: a write, and a disk of another one's bytes. -/
import Derived.Test.YtgkcbpagdfdpdaaDo
set_option linter.unusedVariables false
set_option linter.unusedSimpArgs false
set_option linter.unusedSimpArgs false
set_option maxRecDepth 100000
set_option linter.unusedVariables false
set_option linter.unusedSimpArgs false
namespace Go.Proofs.Ytgkcbpagdfdpdaa
open Go Go.Vm
attribute [-go_sem] sz_67
def wrOk (D : DS) (a : Int) (l : List V) : Prop := (0 ≤ a ∧ a < D.n) ∧ l.length = 128
instance (D : DS) (a : Int) (l : List V) : Decidable (wrOk D a l) := by unfold wrOk; infer_instance
def wrE (D : DS) (a : Int) (l : List V) : Int := if wrOk D a l then 0 else 2
def wrD (D : DS) (a : Int) (l : List V) : DS := if wrOk D a l then D.write a.toNat l else D
theorem write_any {h : Heap} {bd : Nat} {L : DL} {D : DS} (hd : DiskAt h bd L D) {a : Int} {v : V} {l : List V} {S : Set'} (hv : LR h S v l) (hb : Byt l) (few : ∀ s, (D.pe s).length < 1000000) :
    SF Try.prog 13 [.ptr (some (bd, 0)), .int .i64 a, v] h (fun _ => True) (Foot bd L D) fun v h' => v = .int .i64 (wrE D a l) ∧ ∃ L', DiskAt h' bd L' (wrD D a l) ∧ ∀ b, Foot bd L' (wrD D a l) b → Foot bd L D b ∨ h.n ≤ b := by
  rw [wrE, wrD]
  by_cases hok : wrOk D a l
  · rw [if_pos hok, if_pos hok]
    obtain ⟨ha, hl⟩ := hok
    obtain ⟨s, rfl⟩ : ∃ s : Nat, a = s := ⟨a.toNat, by omega⟩
    have hs : s < D.n := by omega
    have hsec : IsSec l := ⟨hl, hb⟩
    have hsv : SecV h v l := by
      rcases hv with ⟨rfl, _⟩ | ⟨b, o, cap, ex, c, ce, rfl, _, hb, hs, hg⟩
      · simp at hl
      · exact ⟨b, o, cap, ex, c, ce, by rw [hl], hb, by omega, by rw [hl] at hg; exact hg⟩
    refine SF.mono (write_ok hd (fun _ _ => trivial) (fun _ h => h) hs hsv (fun _ _ _ _ _ _ => trivial) hsec (by have := few s; omega)) fun v h' ⟨h1, nb, h2, h3⟩ => ⟨h1, L.write s nb, h3, fun b hb => ?_⟩
    rcases Foot.write hb with hb | rfl
    · exact .inl hb
    · exact .inr h2
  · rw [if_neg hok, if_neg hok]
    by_cases hl : l.length = 128
    · exact SF.mono (write_bad hd trivial (fun h => hok ⟨h, hl⟩) v) fun v h' ⟨h1, h2⟩ => ⟨h1, L, by rw [h2]; exact hd, fun b hb => .inl hb⟩
    · exact SF.mono (write_len hd trivial a (hv.lenV Try.underlying33) hl) fun v h' ⟨h1, h2⟩ => ⟨h1, L, by rw [h2]; exact hd, fun b hb => .inl hb⟩
theorem rwrite_any {h : Heap} {S : Set'} {rd fb pb : Nat} {D : DS} (hr : RefX h S rd fb pb D) {a : Int} {v : V} {l : List V} (hv : LR h (fun _ => True) v l) (hb : Byt l) (few : ∀ s, (D.pe s).length < 1000000) :
    SF Try.prog 42 [.ptr (some (rd, 0)), .int .i64 a, v] h (fun _ => True) S fun v h' => v = .int .i64 (wrE D a l) ∧ h.n ≤ h'.n ∧ RefX h' (Rn S h.n h'.n) rd fb pb (wrD D a l) := by
  rw [wrE, wrD]
  by_cases hok : wrOk D a l
  · rw [if_pos hok, if_pos hok]
    obtain ⟨ha, hl⟩ := hok
    obtain ⟨s, rfl⟩ : ∃ s : Nat, a = s := ⟨a.toNat, by omega⟩
    exact SF.mono (rwrite_ok hr (fun _ => trivial) (fun _ h => h) (by omega) hv ⟨hl, hb⟩ (by have := few s; omega)).kept fun v h' ⟨⟨h1, h2⟩, h3⟩ => ⟨h1, h3.n, h2⟩
  · rw [if_neg hok, if_neg hok]
    exact SF.mono (rwrite_bad hr.at (fun _ => trivial) (hv.lenV Try.underlying33) hok) fun v h' ⟨h1, h2⟩ => ⟨h1, by rw [h2]; exact Nat.le_refl _, by rw [h2]; exact hr.mono fun b _ hb => .inl hb⟩
theorem wrD_few {D : DS} {a : Int} {l : List V} {K : Nat} (few : ∀ s, (D.pe s).length ≤ K) (s : Nat) : ((wrD D a l).pe s).length ≤ K + 1 := by
  unfold wrD
  split
  · unfold DS.write
    simp only []
    have h1 := few a.toNat
    have h2 := few s
    split
    · simp; omega
    · omega
  · have := few s; omega
theorem sb_add2 {l : List V} (hl : l.length ≤ 1000000000) : strBin .add (strB l) { data := #[119] } = some (.str (strB (l ++ [.int .u8 119]))) := by
  have hs := strB_size l
  have h1 : (ByteArray.mk #[119]).size = 1 := rfl
  show (if (((strB l).size + (ByteArray.mk #[119]).size : Nat) : Int) > IntKind.i64.max then none else some (V.str (strB l ++ ByteArray.mk #[119]))) = _
  rw [if_neg (by rw [hs, h1]; show ¬ _ > (9223372036854775807 : Int); omega)]
  congr 2
  apply ByteArray.ext
  rw [ByteArray.data_append]
  apply Array.toList_inj.1
  simp [strB, byteOf]
theorem sb_eql (s : ByteArray) : strBin .eql s s = some (.bool true) := by
  show some (V.bool (eqB s.data.toList s.data.toList)) = _
  rw [eqB_eq]; simp
set_option maxHeartbeats 1000000 in
theorem own_loop25 {h : Heap} {R W : Set'} {Q' : Ex → Fr → Heap → Prop} {t : List It} {vo v0 v1 v5 v10 v11 : V} {n0 : Nat} {lo : List V} (ho : Own n0 h vo lo 5) (hlen : lo.length ≤ 1000000000) (hW : ∀ b, n0 ≤ b → W b)
    (hk : ∀ (tr : Tr V) g, tr.get 0 = some v0 → tr.get 1 = some v1 → tr.get 5 = some v5 → tr.get 10 = some v10 → tr.get 11 = some v11 → g.n = h.n → (∀ b, b < n0 → g.get b = h.get b) → (∀ b, b ≠ sblk vo → g.get b = h.get b) → resume ⟨Try.prog, true⟩ R W none Q' t (.exit 1) ⟨⟨182, tr⟩, []⟩ g)
    {tr : Tr V} (t9 : tr.get 9 = some vo) (t0 : tr.get 0 = some v0) (t1 : tr.get 1 = some v1) (t5 : tr.get 5 = some v5) (t10 : tr.get 10 = some v10) (t11 : tr.get 11 = some v11) (t12 : tr.get 12 = some (.int .i64 0)) : GLoop ⟨Try.prog, true⟩ R W none Q' ir25_l0 t ⟨⟨182, tr⟩, []⟩ h := by
  have hl := ho.lr.lenV Try.underlying33
  refine GLoop.inv hm (fun k f g => f.mks = [] ∧ f.tm.n = 182 ∧ f.tm.get 9 = some vo ∧ f.tm.get 0 = some v0 ∧ f.tm.get 1 = some v1 ∧ f.tm.get 5 = some v5 ∧ f.tm.get 10 = some v10 ∧ f.tm.get 11 = some v11 ∧ g.n = h.n ∧ (∀ b, b < n0 → g.get b = h.get b) ∧ (∀ b, b ≠ sblk vo → g.get b = h.get b) ∧ ∃ (i : Nat) (l : List V), i + k = lo.length ∧ f.tm.get 12 = some (.int .i64 i) ∧ l.length = lo.length ∧ Own n0 g vo l 5) lo.length ?_ ?_
  · exact ⟨rfl, rfl, t9, t0, t1, t5, t10, t11, rfl, fun _ _ => rfl, fun _ _ => rfl, 0, lo, by omega, t12, rfl, ho⟩
  clear t9 t0 t1 t5 t10 t11 t12
  clear tr
  rintro k ⟨⟨n', tr⟩, mks⟩ g ⟨hmk, hn', t9, t0, t1, t5, t10, t11, hgn, hold0, hold, i, l, hik, t12, hll, ho2⟩
  simp only [Tm.get_mk] at hmk hn' t9 t0 t1 t5 t10 t11 t12
  subst hmk hn'
  by_cases hin : i < lo.length
  · obtain ⟨b, x, c, rfl, hb0, hb, hs, hr, hg, hgs⟩ := ho2.get (i := i) (by omega)
    rw [hll] at hl hs
    have hWb := hW b hb0
    have hlt := Heap.lt_of_get hb
    simp -implicitDefEqProofs (disch := (first | omega | (simp -implicitDefEqProofs only [szs, ne_eq] <;> omega) | fail)) only [go_sem, Nat.reduceAdd, Nat.reduceSub, Nat.reduceMul, Nat.reduceLT, Nat.reduceMod, Nat.reduceDiv, Nat.reduceEqDiff, Nat.reduceBEq, Nat.reduceLeDiff, ↓reduceIte, reduceCtorEq, Int.reduceAdd, Int.reduceSub, Int.reduceLT, Int.reduceLE, Int.reduceBEq, Int.reduceEq, Int.reduceToNat, ir25_l0, t9, t12, ↓hl, hll, hb, hs, hr, hWb]
    refine ⟨k - 1, by omega, t0, t1, t5, t10, t11, hgn, fun b' hb' => ?_, fun b' hb' => ?_, i + 1, l.set i (.int .u8 102), by omega, rfl, by rw [List.length_set]; exact hll, ?_⟩
    · rw [w_set_ne hlt (by omega)]; exact hold0 b' hb'
    · have : b' ≠ b := hb'
      rw [w_set_ne hlt this]; exact hold b' hb'
    · refine .inr ⟨b, x, c.set i (.int .u8 102), fun e => ?_, by rw [List.length_set, hll], hb0, w_set_eq hlt rfl _, by rw [Blk.size_set, List.length_set, hs, hll], by rw [Blk.ro_set]; exact hr, ?_⟩
      · have := congrArg List.length e
        rw [List.length_set, List.length_nil] at this
        omega
      · rw [List.length_set, set_gets, hgs]
  · obtain rfl : i = lo.length := by omega
    simp -implicitDefEqProofs (disch := (first | omega | (simp -implicitDefEqProofs only [szs, ne_eq] <;> omega) | fail)) only [go_sem, Nat.reduceAdd, Nat.reduceSub, Nat.reduceMul, Nat.reduceLT, Nat.reduceMod, Nat.reduceDiv, Nat.reduceEqDiff, Nat.reduceBEq, Nat.reduceLeDiff, ↓reduceIte, reduceCtorEq, Int.reduceAdd, Int.reduceSub, Int.reduceLT, Int.reduceLE, Int.reduceBEq, Int.reduceEq, Int.reduceToNat, ir25_l0, t9, t12, ↓hl]
    exact hk _ _ (by simp -implicitDefEqProofs (disch := (first | omega | (simp -implicitDefEqProofs only [szs, ne_eq] <;> omega) | fail)) only [go_sem, Nat.reduceAdd, Nat.reduceSub, Nat.reduceMul, Nat.reduceLT, Nat.reduceMod, Nat.reduceDiv, Nat.reduceEqDiff, Nat.reduceBEq, Nat.reduceLeDiff, ↓reduceIte, reduceCtorEq, Int.reduceAdd, Int.reduceSub, Int.reduceLT, Int.reduceLE, Int.reduceBEq, Int.reduceEq, Int.reduceToNat, t0]) (by simp -implicitDefEqProofs (disch := (first | omega | (simp -implicitDefEqProofs only [szs, ne_eq] <;> omega) | fail)) only [go_sem, Nat.reduceAdd, Nat.reduceSub, Nat.reduceMul, Nat.reduceLT, Nat.reduceMod, Nat.reduceDiv, Nat.reduceEqDiff, Nat.reduceBEq, Nat.reduceLeDiff, ↓reduceIte, reduceCtorEq, Int.reduceAdd, Int.reduceSub, Int.reduceLT, Int.reduceLE, Int.reduceBEq, Int.reduceEq, Int.reduceToNat, t1]) (by simp -implicitDefEqProofs (disch := (first | omega | (simp -implicitDefEqProofs only [szs, ne_eq] <;> omega) | fail)) only [go_sem, Nat.reduceAdd, Nat.reduceSub, Nat.reduceMul, Nat.reduceLT, Nat.reduceMod, Nat.reduceDiv, Nat.reduceEqDiff, Nat.reduceBEq, Nat.reduceLeDiff, ↓reduceIte, reduceCtorEq, Int.reduceAdd, Int.reduceSub, Int.reduceLT, Int.reduceLE, Int.reduceBEq, Int.reduceEq, Int.reduceToNat, t5]) (by simp -implicitDefEqProofs (disch := (first | omega | (simp -implicitDefEqProofs only [szs, ne_eq] <;> omega) | fail)) only [go_sem, Nat.reduceAdd, Nat.reduceSub, Nat.reduceMul, Nat.reduceLT, Nat.reduceMod, Nat.reduceDiv, Nat.reduceEqDiff, Nat.reduceBEq, Nat.reduceLeDiff, ↓reduceIte, reduceCtorEq, Int.reduceAdd, Int.reduceSub, Int.reduceLT, Int.reduceLE, Int.reduceBEq, Int.reduceEq, Int.reduceToNat, t10]) (by simp -implicitDefEqProofs (disch := (first | omega | (simp -implicitDefEqProofs only [szs, ne_eq] <;> omega) | fail)) only [go_sem, Nat.reduceAdd, Nat.reduceSub, Nat.reduceMul, Nat.reduceLT, Nat.reduceMod, Nat.reduceDiv, Nat.reduceEqDiff, Nat.reduceBEq, Nat.reduceLeDiff, ↓reduceIte, reduceCtorEq, Int.reduceAdd, Int.reduceSub, Int.reduceLT, Int.reduceLE, Int.reduceBEq, Int.reduceEq, Int.reduceToNat, t11]) hgn hold0 hold
end Go.Proofs.Ytgkcbpagdfdpdaa
