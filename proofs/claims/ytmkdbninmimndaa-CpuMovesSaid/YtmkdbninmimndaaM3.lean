/- CpuMoves: the law's loops. -/
import Derived.Test.YtmkdbninmimndaaM2
import Derived.Test.YtmkdbninmimndaaCh5
set_option maxRecDepth 100000
set_option linter.unusedVariables false
set_option linter.unusedSimpArgs false
namespace Go.Proofs.Ytmkdbninmimndaa
open Go Go.Vm
theorem sb_eq (a : ByteArray) : strBin .eql a a = some (.bool true) := by
  show some (V.bool (eqB a.data.toList a.data.toList)) = _
  rw [eqB_eq]; simp
theorem strB_size (l : List V) : (strB l).size = l.length := by
  show (l.map byteOf).length = _
  simp
theorem sb_add {l : List V} (hl : l.length ≤ 100000) : strBin .add (strB l) { data := #[119] } = some (.str (strB (l ++ [.int .u8 119]))) := by
  have hs := strB_size l
  have h1 : (ByteArray.mk #[119]).size = 1 := rfl
  show (if (((strB l).size + (ByteArray.mk #[119]).size : Nat) : Int) > IntKind.i64.max then none else some (V.str (strB l ++ ByteArray.mk #[119]))) = _
  rw [if_neg (by rw [hs, h1]; show ¬ _ > (9223372036854775807 : Int); omega)]
  congr 2
  apply ByteArray.ext
  rw [ByteArray.data_append]
  apply Array.toList_inj.1
  simp [strB, byteOf]
/-- A slice's block. -/
def sblk : V → Nat
  | .slice (some (b, _)) _ _ _ => b
  | _ => 0
theorem Own.below {n0 n1 : Nat} {h h' : Heap} {v : V} {l : List V} {e : TypeId} (ho : Own n0 h v l e) (hb : sblk v < n1) (hk : ∀ b, b < n1 → h'.get b = h.get b) : Own n0 h' v l e := by
  rcases ho with ⟨rfl, rfl | ⟨b, c, rfl, h1, hb', hr⟩⟩ | ⟨b, x, c, h0, rfl, h1, hb', hs⟩
  · exact .inl ⟨rfl, .inl rfl⟩
  · exact .inl ⟨rfl, .inr ⟨b, c, rfl, h1, by rw [hk b hb]; exact hb', hr⟩⟩
  · exact .inr ⟨b, x, c, h0, rfl, h1, by rw [hk b hb]; exact hb', hs⟩
theorem Own.sblk_lt {n0 : Nat} {h : Heap} {v : V} {l : List V} {e : TypeId} (ho : Own n0 h v l e) (hp : 0 < h.n) : sblk v < h.n := by
  rcases ho with ⟨_, rfl | ⟨b, c, rfl, _, hb, _⟩⟩ | ⟨b, x, c, h0, rfl, _, hb, hs, _, hg⟩
  · exact hp
  · exact Heap.lt_of_get hb
  · exact Heap.lt_of_get hb
/-- A flat memory's blocks are below n1. -/
def FB (h : Heap) (fp n1 : Nat) : Prop := fp < n1 ∧ ∀ c e, h.get fp = some (.cells c e) → sblk (c.get 0) < n1 ∧ sblk (c.get 1) < n1
theorem FlatAt.fb {h : Heap} {fp n0 : Nat} {L Q : List V} {q : Nat → Int} (hf : FlatAt h fp n0 L Q q) : FB h fp h.n := by
  obtain ⟨c, vb, vr, c1, cs, cr, c0, c1', ob, or'⟩ := hf.c
  have := Heap.lt_of_get c1
  refine ⟨this, fun c' e hc => ?_⟩
  rw [c1] at hc
  cases hc
  rw [c0, c1']
  exact ⟨ob.sblk_lt (by omega), or'.sblk_lt (by omega)⟩
theorem FB.same {h h' : Heap} {fp n1 : Nat} (hb : FB h fp n1) (hk : h'.get fp = h.get fp) : FB h' fp n1 := ⟨hb.1, by rw [hk]; exact hb.2⟩
theorem FlatAt.below {h h' : Heap} {fp n0 n1 : Nat} {L Q : List V} {q : Nat → Int} (hf : FlatAt h fp n0 L Q q) (hB : FB h fp n1) (hk : ∀ b, b < n1 → h'.get b = h.get b) : FlatAt h' fp n0 L Q q := by
  obtain ⟨⟨c, vb, vr, c1, c2, c3, c4, c5, c6, c7⟩, h1, h2, h3, h4⟩ := hf
  have := hB.2 _ _ c1
  rw [c4, c5] at this
  exact ⟨⟨c, vb, vr, by rw [hk _ hB.1]; exact c1, c2, c3, c4, c5, c6.below this.1 hk, c7.below this.2 hk⟩, h1, h2, h3, h4⟩
theorem FB.fblk {h : Heap} {fp n1 : Nat} (hb : FB h fp n1) : fblk h fp < n1 := by
  have := hb.1
  unfold Proofs.Ytmkdbninmimndaa.fblk
  cases e : h.get fp with
  | none => simp only []; omega
  | some o => cases o with
    | cells c t =>
      have h2 := (hb.2 c t e).1
      simp only []
      split
      · rename_i hs; rw [hs] at h2; exact h2
      · omega
    | _ => simp only []; omega
theorem mayB_lt {q : Nat → Int} {n a : Nat} {r : Int} (h : mayB q n a r = true) : a < n := by
  simp only [mayB, Bool.and_eq_true, decide_eq_true_eq] at h
  exact h.1.2.2
theorem u8_ne (n : Int) : intBin .neq .u8 n n = some (.bool false) := by
  show some (V.bool _) = _
  simp
set_option maxHeartbeats 1000000 in
theorem mload_loop {h : Heap} {R W : Set'} {Q' : Ex → Fr → Heap → Prop} {t : List It} {lv dv fv vB vr : V} {rm k0 a : Nat} {L : List V} (hl : LV h lv (gets L a k0)) (hr : MemAt h rm vB vr) (hB : LV h vB L) (hbyt : ∀ i, i < L.length → ∃ n : Int, L[i]? = some (.int .u8 n) ∧ 0 ≤ n ∧ n ≤ 255) (hk0 : k0 ≤ 65536) (hin' : ∀ i, i < k0 → ad a i < L.length) (hR : ∀ b, R b)
    (hk : ∀ tr, tr.get 2 = some (.int .u32 a) → tr.get 5 = some dv → tr.get 13 = some fv → tr.get 15 = some (.ptr (some (rm, 0))) → resume (Try.prog : MP) R W none Q' t (.exit 1) ⟨⟨197, tr⟩, []⟩ h)
    {tr : Tr V} (t2 : tr.get 2 = some (.int .u32 a)) (t5 : tr.get 5 = some dv) (t13 : tr.get 13 = some fv) (t15 : tr.get 15 = some (.ptr (some (rm, 0)))) (t16 : tr.get 16 = some lv) (t21 : tr.get 21 = some (.int .i64 0)) : GLoop (Try.prog : MP) R W none Q' ir5_l0 t ⟨⟨197, tr⟩, []⟩ h := by
  have hlen := hl.len23
  rw [gets_len] at hlen
  obtain ⟨cm, m1, ms, m0, m2⟩ := hr.c
  have hRm := hR rm
  refine GLoop.inv hm (fun k f g => g = h ∧ f.mks = [] ∧ f.tm.n = 197 ∧ f.tm.get 2 = some (.int .u32 a) ∧ f.tm.get 5 = some dv ∧ f.tm.get 13 = some fv ∧ f.tm.get 15 = some (.ptr (some (rm, 0))) ∧ f.tm.get 16 = some lv ∧ ∃ i : Nat, i + k = k0 ∧ f.tm.get 21 = some (.int .i64 i)) k0 ?_ ?_
  · exact ⟨rfl, rfl, rfl, t2, t5, t13, t15, t16, 0, by omega, t21⟩
  clear t2 t5 t13 t15 t16 t21
  clear tr
  rintro k ⟨⟨n', tr⟩, mks⟩ g ⟨rfl, hmk, hn', t2, t5, t13, t15, t16, i, hi, t21⟩
  simp only [Tm.get_mk] at hmk hn' t2 t5 t13 t15 t16 t21
  subst hmk hn'
  by_cases hin : i < k0
  · have hlg := gets_len L a k0
    have hil : i < (gets L a k0).length := by rw [hlg]; exact hin
    obtain ⟨b, o, cap, ex, c, ce, rfl, hb, hbs, hbg⟩ := hl.get hil
    have hal := hin' i hin
    obtain ⟨x, hx, hx1⟩ := hbyt _ hal
    have hgb : getB L (ad a i) = .int .u8 x := by unfold getB; rw [if_pos hal, List.getD_eq_getElem?_getD, hx]; rfl
    rw [List.getD_eq_getElem?_getD, gets_at hin, Option.getD_some, hgb] at hbg
    obtain ⟨b2, o2, cap2, ex2, c2, ce2, rfl, hb2, hbs2, hbg2⟩ := hB.get hal
    rw [List.getD_eq_getElem?_getD, hx, Option.getD_some] at hbg2
    rw [hlg] at hbs
    have hRb := hR b
    have hRb2 := hR b2
    simp -implicitDefEqProofs (disch := (first | omega | (simp -implicitDefEqProofs only [Heap.n_push, Heap.n_set, Blk.size_set, Blk.size_puts, Blk.size_putA, w_of_size, w_rep_size, List.length_cons, List.length_nil, ne_eq] <;> omega) | fail)) only [go_sem, Nat.reduceAdd, Nat.reduceSub, Nat.reduceMul, Nat.reduceLT, Nat.reduceMod, Nat.reduceDiv, Nat.reduceEqDiff, Nat.reduceBEq, Nat.reduceLeDiff, ↓reduceIte, reduceCtorEq, Int.reduceAdd, Int.reduceSub, Int.reduceLT, Int.reduceLE, Int.reduceBEq, Int.reduceEq, Int.reduceToNat, ir5_l0, t2, t5, t13, t15, t16, t21, ↓hlen, hlg, hb, hbs, hbg, hRb, ↓cvDD, cD, ↓ad_eq, m1, ms, m0, hRm, hb2, hbs2, hbg2, hRb2, ↓u8_ne]
    exact ⟨k - 1, by omega, i + 1, by omega, rfl⟩
  · simp -implicitDefEqProofs (disch := (first | omega | (simp -implicitDefEqProofs only [Heap.n_push, Heap.n_set, Blk.size_set, Blk.size_puts, Blk.size_putA, w_of_size, w_rep_size, List.length_cons, List.length_nil, ne_eq] <;> omega) | fail)) only [go_sem, Nat.reduceAdd, Nat.reduceSub, Nat.reduceMul, Nat.reduceLT, Nat.reduceMod, Nat.reduceDiv, Nat.reduceEqDiff, Nat.reduceBEq, Nat.reduceLeDiff, ↓reduceIte, reduceCtorEq, Int.reduceAdd, Int.reduceSub, Int.reduceLT, Int.reduceLE, Int.reduceBEq, Int.reduceEq, Int.reduceToNat, ir5_l0, t2, t5, t13, t15, t16, t21, ↓hlen]
    exact hk _ (by simp -implicitDefEqProofs (disch := (first | omega | (simp -implicitDefEqProofs only [Heap.n_push, Heap.n_set, Blk.size_set, Blk.size_puts, Blk.size_putA, w_of_size, w_rep_size, List.length_cons, List.length_nil, ne_eq] <;> omega) | fail)) only [go_sem, Nat.reduceAdd, Nat.reduceSub, Nat.reduceMul, Nat.reduceLT, Nat.reduceMod, Nat.reduceDiv, Nat.reduceEqDiff, Nat.reduceBEq, Nat.reduceLeDiff, ↓reduceIte, reduceCtorEq, Int.reduceAdd, Int.reduceSub, Int.reduceLT, Int.reduceLE, Int.reduceBEq, Int.reduceEq, Int.reduceToNat, t2]) (by simp -implicitDefEqProofs (disch := (first | omega | (simp -implicitDefEqProofs only [Heap.n_push, Heap.n_set, Blk.size_set, Blk.size_puts, Blk.size_putA, w_of_size, w_rep_size, List.length_cons, List.length_nil, ne_eq] <;> omega) | fail)) only [go_sem, Nat.reduceAdd, Nat.reduceSub, Nat.reduceMul, Nat.reduceLT, Nat.reduceMod, Nat.reduceDiv, Nat.reduceEqDiff, Nat.reduceBEq, Nat.reduceLeDiff, ↓reduceIte, reduceCtorEq, Int.reduceAdd, Int.reduceSub, Int.reduceLT, Int.reduceLE, Int.reduceBEq, Int.reduceEq, Int.reduceToNat, t5]) (by simp -implicitDefEqProofs (disch := (first | omega | (simp -implicitDefEqProofs only [Heap.n_push, Heap.n_set, Blk.size_set, Blk.size_puts, Blk.size_putA, w_of_size, w_rep_size, List.length_cons, List.length_nil, ne_eq] <;> omega) | fail)) only [go_sem, Nat.reduceAdd, Nat.reduceSub, Nat.reduceMul, Nat.reduceLT, Nat.reduceMod, Nat.reduceDiv, Nat.reduceEqDiff, Nat.reduceBEq, Nat.reduceLeDiff, ↓reduceIte, reduceCtorEq, Int.reduceAdd, Int.reduceSub, Int.reduceLT, Int.reduceLE, Int.reduceBEq, Int.reduceEq, Int.reduceToNat, t13]) (by simp -implicitDefEqProofs (disch := (first | omega | (simp -implicitDefEqProofs only [Heap.n_push, Heap.n_set, Blk.size_set, Blk.size_puts, Blk.size_putA, w_of_size, w_rep_size, List.length_cons, List.length_nil, ne_eq] <;> omega) | fail)) only [go_sem, Nat.reduceAdd, Nat.reduceSub, Nat.reduceMul, Nat.reduceLT, Nat.reduceMod, Nat.reduceDiv, Nat.reduceEqDiff, Nat.reduceBEq, Nat.reduceLeDiff, ↓reduceIte, reduceCtorEq, Int.reduceAdd, Int.reduceSub, Int.reduceLT, Int.reduceLE, Int.reduceBEq, Int.reduceEq, Int.reduceToNat, t15])
set_option maxHeartbeats 1000000 in
theorem mstore_loop {h : Heap} {R W : Set'} {Q' : Ex → Fr → Heap → Prop} {t : List It} {dv fv vB vr : V} {rm n1 a : Nat} {L ld : List V} (hd : LV h dv ld) (hdn : ∀ g : Heap, (∀ b, b < n1 → g.get b = h.get b) → LV g dv ld) (hbyt : Byt ld) (hr : MemAt h rm vB vr) (hB : Own n1 h vB L 5) (hk0 : ld.length ≤ 65536) (hin' : ∀ i, i < ld.length → ad a i < L.length) (hR : ∀ b, R b) (hW : ∀ b, n1 ≤ b → W b)
    (hk : ∀ tr g, tr.get 13 = some fv → tr.get 15 = some (.ptr (some (rm, 0))) → g.n = h.n → (∀ b, b < n1 → g.get b = h.get b) → MemAt g rm vB vr → Own n1 g vB (puts L a ld ld.length) 5 → resume (Try.prog : MP) R W none Q' t (.exit 3) ⟨⟨197, tr⟩, []⟩ g)
    {tr : Tr V} (t2 : tr.get 2 = some (.int .u32 a)) (t5 : tr.get 5 = some dv) (t13 : tr.get 13 = some fv) (t15 : tr.get 15 = some (.ptr (some (rm, 0)))) (t25 : tr.get 25 = some (.int .i64 0)) : GLoop (Try.prog : MP) R W none Q' ir5_l1 t ⟨⟨197, tr⟩, []⟩ h := by
  have hlen := hd.len23
  have hRm := hR rm
  refine GLoop.inv hm (fun k f g => f.mks = [] ∧ f.tm.n = 197 ∧ f.tm.get 2 = some (.int .u32 a) ∧ f.tm.get 5 = some dv ∧ f.tm.get 13 = some fv ∧ f.tm.get 15 = some (.ptr (some (rm, 0))) ∧ ∃ i : Nat, i + k = ld.length ∧ f.tm.get 25 = some (.int .i64 i) ∧ g.n = h.n ∧ (∀ b, b < n1 → g.get b = h.get b) ∧ MemAt g rm vB vr ∧ Own n1 g vB (puts L a ld i) 5) ld.length ?_ ?_
  · exact ⟨rfl, rfl, t2, t5, t13, t15, 0, by omega, t25, rfl, fun _ _ => rfl, hr, hB⟩
  clear t2 t5 t13 t15 t25
  clear tr
  rintro k ⟨⟨n', tr⟩, mks⟩ g ⟨hmk, hn', t2, t5, t13, t15, i, hi, t25, hgn, hold, hr2, hB2⟩
  simp only [Tm.get_mk] at hmk hn' t2 t5 t13 t15 t25
  subst hmk hn'
  obtain ⟨cm, m1, ms, m0, m2⟩ := hr2.c
  by_cases hin : i < ld.length
  · obtain ⟨b, o, cap, ex, c, ce, rfl, hb, hbs, hbg⟩ := (hdn g hold).get hin
    obtain ⟨x, hx, hx1⟩ := hbyt ld[i] (List.getElem_mem hin)
    have hgd : ld.getD i undefV = .int .u8 x := by rw [List.getD_eq_getElem?_getD, List.getElem?_eq_getElem hin, hx]; rfl
    rw [hgd] at hbg
    have hal := hin' i hin
    have hpl := puts_len L a ld i
    obtain ⟨b2, x2, c2, rfl, hb20, hb2, hbs2, hbr2, hbg2, hgs2⟩ := hB2.get (show ad a i < (puts L a ld i).length by omega)
    rw [hpl] at hbs2
    have hRb := hR b
    have hRb2 := hR b2
    have hWb2 := hW b2 hb20
    have hlb := Heap.lt_of_get hb2
    simp -implicitDefEqProofs (disch := (first | omega | (simp -implicitDefEqProofs only [Heap.n_push, Heap.n_set, Blk.size_set, Blk.size_puts, Blk.size_putA, w_of_size, w_rep_size, List.length_cons, List.length_nil, ne_eq] <;> omega) | fail)) only [go_sem, Nat.reduceAdd, Nat.reduceSub, Nat.reduceMul, Nat.reduceLT, Nat.reduceMod, Nat.reduceDiv, Nat.reduceEqDiff, Nat.reduceBEq, Nat.reduceLeDiff, ↓reduceIte, reduceCtorEq, Int.reduceAdd, Int.reduceSub, Int.reduceLT, Int.reduceLE, Int.reduceBEq, Int.reduceEq, Int.reduceToNat, ir5_l1, t2, t5, t13, t15, t25, ↓hlen, hb, hbs, hbg, hRb, ↓cvDD, cD, ↓ad_eq, m1, ms, m0, hRm, hpl, hb2, hbs2, hbr2, hRb2, hWb2]
    have hmb : rm ≠ b2 := fun e => by rw [e, hb2] at m1; simp at m1

    refine ⟨k - 1, by omega, i + 1, by omega, rfl, hgn, fun y hy => by rw [w_set_ne hlb (by omega)]; exact hold y hy, ⟨cm, by rw [w_set_ne hlb hmb]; exact m1, ms, by rw [m0, hpl], m2⟩, .inr ⟨b2, x2, _, fun e => by have := congrArg List.length e; rw [puts_len] at this; simp at this; rw [this] at hal; simp at hal, by rw [puts_len], hb20, w_set_eq hlb rfl _, by rw [Blk.size_set, puts_len]; exact hbs2, by rw [Blk.ro_set]; exact hbr2, ?_⟩⟩
    rw [puts, List.length_set, set_gets, hgs2, hgd]
  · obtain rfl : i = ld.length := by omega
    simp -implicitDefEqProofs (disch := (first | omega | (simp -implicitDefEqProofs only [Heap.n_push, Heap.n_set, Blk.size_set, Blk.size_puts, Blk.size_putA, w_of_size, w_rep_size, List.length_cons, List.length_nil, ne_eq] <;> omega) | fail)) only [go_sem, Nat.reduceAdd, Nat.reduceSub, Nat.reduceMul, Nat.reduceLT, Nat.reduceMod, Nat.reduceDiv, Nat.reduceEqDiff, Nat.reduceBEq, Nat.reduceLeDiff, ↓reduceIte, reduceCtorEq, Int.reduceAdd, Int.reduceSub, Int.reduceLT, Int.reduceLE, Int.reduceBEq, Int.reduceEq, Int.reduceToNat, ir5_l1, t2, t5, t13, t15, t25, ↓hlen]
    exact hk _ _ (by simp -implicitDefEqProofs (disch := (first | omega | (simp -implicitDefEqProofs only [Heap.n_push, Heap.n_set, Blk.size_set, Blk.size_puts, Blk.size_putA, w_of_size, w_rep_size, List.length_cons, List.length_nil, ne_eq] <;> omega) | fail)) only [go_sem, Nat.reduceAdd, Nat.reduceSub, Nat.reduceMul, Nat.reduceLT, Nat.reduceMod, Nat.reduceDiv, Nat.reduceEqDiff, Nat.reduceBEq, Nat.reduceLeDiff, ↓reduceIte, reduceCtorEq, Int.reduceAdd, Int.reduceSub, Int.reduceLT, Int.reduceLE, Int.reduceBEq, Int.reduceEq, Int.reduceToNat, t13]) (by simp -implicitDefEqProofs (disch := (first | omega | (simp -implicitDefEqProofs only [Heap.n_push, Heap.n_set, Blk.size_set, Blk.size_puts, Blk.size_putA, w_of_size, w_rep_size, List.length_cons, List.length_nil, ne_eq] <;> omega) | fail)) only [go_sem, Nat.reduceAdd, Nat.reduceSub, Nat.reduceMul, Nat.reduceLT, Nat.reduceMod, Nat.reduceDiv, Nat.reduceEqDiff, Nat.reduceBEq, Nat.reduceLeDiff, ↓reduceIte, reduceCtorEq, Int.reduceAdd, Int.reduceSub, Int.reduceLT, Int.reduceLE, Int.reduceBEq, Int.reduceEq, Int.reduceToNat, t15]) hgn hold hr2 hB2
end Go.Proofs.Ytmkdbninmimndaa
