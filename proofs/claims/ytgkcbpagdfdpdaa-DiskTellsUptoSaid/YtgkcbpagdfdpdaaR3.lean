/- Disks of bytes: the document's Of, the program's Of; Size, Writes. -/
import Derived.Test.YtgkcbpagdfdpdaaR2
set_option linter.unusedVariables false
set_option linter.unusedSimpArgs false
set_option linter.unusedSimpArgs false
set_option maxRecDepth 100000
set_option linter.unusedVariables false
set_option linter.unusedSimpArgs false
namespace Go.Proofs.Ytgkcbpagdfdpdaa
open Go Go.Vm
attribute [-go_sem] sz_67
def capOk : V → Prop
  | .slice _ n c _ => n ≤ c
  | _ => True
theorem slice_from {h : Heap} {R : Set'} {v : V} {l : List V} (hv : LR h R v l) (hc : capOk v) {k : Nat} (hk : k < l.length) : ∃ v', sliceV Try.prog 33 v (some (k : Int)) none none = some v' ∧ lenOfV v' = some (l.length - k) ∧ LR h R v' (l.drop k) := by
  rcases hv with ⟨rfl, _⟩ | ⟨b, o, cap, ex, c, ce, rfl, hR, hb, hs, hg⟩
  · simp at hk
  · have hcl : l.length ≤ cap := hc
    have hbv : boundsV l.length cap (some (k : Int)) none none = some (k, l.length, cap) := by
      have : (k : Int).toNat = k := by omega
      simp only [boundsV, this]
      rw [if_pos (by omega)]
    have hbe : Nat.beq cap k = false := w_beq_f (by omega)
    have hbl : Nat.blt k cap = true := w_blt_t (by omega)
    refine ⟨.slice (some (b, o + k * 1)) (l.length - k) (cap - k) ex, ?_, rfl, .inr ⟨b, o + k, cap - k, ex, c, ce, by rw [List.length_drop, Nat.mul_one], hR, hb, by rw [List.length_drop]; omega, ?_⟩⟩
    · simp only [sliceV, Try.underlying33, sz_5, hbv]
      cases ex with
      | true => simp only [hbe]
      | false => simp only [hbl]; rw [if_pos ⟨hcl, .inl trivial⟩]
    · refine Blk.gets_ext (fun j hj => ?_) rfl
      rw [List.length_drop] at hj
      have := Blk.gets_get c l.length o (k + j) (by omega)
      rw [hg] at this
      rw [List.getD_eq_getElem?_getD, List.getElem?_drop, this, show o + k + j = o + (k + j) by omega]; rfl
/-- A sector's bytes among all. -/
def chunk (l : List V) (s : Nat) : List V := (l.drop (s * 128)).take 128
theorem chunk_sec {l : List V} (hb : ∀ x ∈ l, ∃ n : Int, x = .int .u8 n ∧ 0 ≤ n ∧ n ≤ 255) {s n : Nat} (hn : l.length = n * 128) (hs : s < n) : IsSec (chunk l s) := by
  have hN := secN_eq
  refine ⟨by simp only [chunk, List.length_take, List.length_drop]; omega, fun v hv => hb v (List.mem_of_mem_drop (List.mem_of_mem_take hv))⟩
/-- A copy of a sector's bytes into a place of 128 bytes. -/
theorem copy_sec {h : Heap} {R : Set'} {v' : V} {l : List V} {b off cap s n : Nat} {ex : Bool} {c : Blk} {ce : TypeId} (hn : l.length = n * 128) (hs : s < n) (hl : lenOfV v' = some (l.length - s * 128)) (hv : LR h R v' (l.drop (s * 128))) (hbyt : ∀ x ∈ l, ∃ n : Int, x = .int .u8 n ∧ 0 ≤ n ∧ n ≤ 255)
    (hb : h.get b = some (.cells c ce)) (hsz : off + 128 ≤ c.size) (hro : c.ro = false) : ∃ rs, copyV Try.prog 33 (.slice (some (b, off)) 128 cap ex) v' h = some ⟨.int .i64 128, h.set b (.cells (c.putA off (chunk l s)) ce), rs, [b]⟩ ∧ ∀ x ∈ rs, R x := by
  have hsec := chunk_sec hbyt hn hs
  have hN := secN_eq
  have hcl := hsec.1
  have hmin : Nat.min (l.length - s * 128) 128 = 128 := Nat.min_eq_right (by omega)
  rcases hv with ⟨h0, _⟩ | ⟨b2, o2, cap2, ex2, c2, ce2, rfl, hR2, hb2, hs2, hg2⟩
  · have := congrArg List.length h0
    simp at this; omega
  · refine ⟨[b2], ?_, fun x hx => by simp at hx; rw [hx]; exact hR2⟩
    have hdl : (l.drop (s * 128)).length = l.length - s * 128 := List.length_drop
    have hgt : c2.gets o2 128 = chunk l s := by
      unfold chunk
      rw [← hg2]
      have : (l.drop (s * 128)).length = 128 + ((l.drop (s * 128)).length - 128) := by omega
      rw [this, gets_split, List.take_append_of_le_length (by rw [Blk.length_gets]; omega), List.take_of_length_le (by rw [Blk.length_gets]; omega)]
    simp only [copyV, Try.underlying33, sz_5, hl, hmin, firstV, hb2]
    rw [w_ble_t (by omega)]
    simp only [Nat.mul_one, hgt, hb, hsec.one, hro]
    rw [w_ble_t (by omega)]
    rfl
noncomputable def fillF (l : List V) (i : Nat) : Nat → List V := fun s => if s < i then chunk l s else ze_67
noncomputable def DS.ofB (l : List V) (n : Nat) : DS := ⟨n, fillF l n, fun _ => [], 0⟩
theorem fillF_zero (l : List V) : fillF l 0 = fun _ => ze_67 := by funext s; simp [fillF]
theorem fillF_succ (l : List V) (i : Nat) : fillF l (i + 1) = fun x => if x = i then chunk l i else fillF l i x := by
  funext s
  simp only [fillF]
  by_cases h : s = i
  · subst h; rw [if_pos (by omega), if_pos rfl]
  · rw [if_neg h]
    by_cases h2 : s < i
    · rw [if_pos (by omega), if_pos h2]
    · rw [if_neg (by omega), if_neg h2]
theorem fillF_sec {l : List V} (hb : ∀ x ∈ l, ∃ n : Int, x = .int .u8 n ∧ 0 ≤ n ∧ n ≤ 255) {n : Nat} (hn : l.length = n * 128) {i : Nat} (hi : i ≤ n) (s : Nat) : IsSec (fillF l i s) := by
  simp only [fillF]
  split
  · exact chunk_sec hb hn (by omega)
  · exact ze_sec
theorem size_ok {h : Heap} {R W : Set'} {bd : Nat} {L : DL} {D : DS} (hd : DiskAt h bd L D) (hR : ∀ b, R b) : SF Try.prog 22 [.ptr (some (bd, 0))] h R W fun v h' => v = .int .i64 D.n ∧ h' = h := by
  obtain ⟨c, h1, hs, _, c0, _⟩ := hd.d
  have hRb := hR bd
  refine SF.go hm Try.func22 ir22_eq ?_
  simp -implicitDefEqProofs (disch := (first | omega | (simp -implicitDefEqProofs only [szs, ne_eq] <;> omega) | fail)) only [go_sem, Nat.reduceAdd, Nat.reduceSub, Nat.reduceMul, Nat.reduceLT, Nat.reduceMod, Nat.reduceDiv, Nat.reduceEqDiff, Nat.reduceBEq, Nat.reduceLeDiff, ↓reduceIte, reduceCtorEq, Int.reduceAdd, Int.reduceSub, Int.reduceLT, Int.reduceLE, Int.reduceBEq, Int.reduceEq, Int.reduceToNat, ir22]
  refine GCall.of (there_ok hd (.inr (hR _))) ?_
  rintro v h' ⟨rfl, rfl⟩
  simp -implicitDefEqProofs (disch := (first | omega | (simp -implicitDefEqProofs only [szs, ne_eq] <;> omega) | fail)) only [go_sem, Nat.reduceAdd, Nat.reduceSub, Nat.reduceMul, Nat.reduceLT, Nat.reduceMod, Nat.reduceDiv, Nat.reduceEqDiff, Nat.reduceBEq, Nat.reduceLeDiff, ↓reduceIte, reduceCtorEq, Int.reduceAdd, Int.reduceSub, Int.reduceLT, Int.reduceLE, Int.reduceBEq, Int.reduceEq, Int.reduceToNat, h1, hs, c0, hRb]
theorem writes_ok {h : Heap} {R W : Set'} {bd : Nat} {L : DL} {D : DS} (hd : DiskAt h bd L D) (hR : ∀ b, R b) : SF Try.prog 37 [.ptr (some (bd, 0))] h R W fun v h' => v = .int .i64 D.wr ∧ h' = h := by
  obtain ⟨c, h1, hs, _, c0, c1, c2⟩ := hd.d
  have hRb := hR bd
  refine SF.go hm Try.func37 ir37_eq ?_
  simp -implicitDefEqProofs (disch := (first | omega | (simp -implicitDefEqProofs only [szs, ne_eq] <;> omega) | fail)) only [go_sem, Nat.reduceAdd, Nat.reduceSub, Nat.reduceMul, Nat.reduceLT, Nat.reduceMod, Nat.reduceDiv, Nat.reduceEqDiff, Nat.reduceBEq, Nat.reduceLeDiff, ↓reduceIte, reduceCtorEq, Int.reduceAdd, Int.reduceSub, Int.reduceLT, Int.reduceLE, Int.reduceBEq, Int.reduceEq, Int.reduceToNat, ir37]
  refine GCall.of (there_ok hd (.inr (hR _))) ?_
  rintro v h' ⟨rfl, rfl⟩
  simp -implicitDefEqProofs (disch := (first | omega | (simp -implicitDefEqProofs only [szs, ne_eq] <;> omega) | fail)) only [go_sem, Nat.reduceAdd, Nat.reduceSub, Nat.reduceMul, Nat.reduceLT, Nat.reduceMod, Nat.reduceDiv, Nat.reduceEqDiff, Nat.reduceBEq, Nat.reduceLeDiff, ↓reduceIte, reduceCtorEq, Int.reduceAdd, Int.reduceSub, Int.reduceLT, Int.reduceLE, Int.reduceBEq, Int.reduceEq, Int.reduceToNat, h1, hs, c2, hRb]
theorem rof_nil {h : Heap} {R W S : Set'} {v : V} {l : List V} (hv : LR h S v l) (hl : l.length ≤ 9223372036854775807) (hb : l.length % 128 ≠ 0 ∨ ¬ (1 ≤ l.length / 128 ∧ l.length / 128 ≤ 4096)) : SF Try.prog 20 [v] h R W fun v h' => v = .ptr none ∧ h' = h := by
  have hlen := hv.lenV Try.underlying33
  have ht1 : (l.length : Int).tmod 128 = ((l.length % 128 : Nat) : Int) := rfl
  have ht2 : (l.length : Int).tdiv 128 = ((l.length / 128 : Nat) : Int) := rfl
  refine SF.go hm Try.func20 ir20_eq ?_
  by_cases h0 : l.length % 128 = 0
  · have hb : ¬ (1 ≤ ((l.length / 128 : Nat) : Int) ∧ ((l.length / 128 : Nat) : Int) ≤ 4096) := by rcases hb with h | h <;> omega
    simp -implicitDefEqProofs (disch := (first | omega | (simp -implicitDefEqProofs only [szs, ne_eq] <;> omega) | fail)) only [go_sem, Nat.reduceAdd, Nat.reduceSub, Nat.reduceMul, Nat.reduceLT, Nat.reduceMod, Nat.reduceDiv, Nat.reduceEqDiff, Nat.reduceBEq, Nat.reduceLeDiff, ↓reduceIte, reduceCtorEq, Int.reduceAdd, Int.reduceSub, Int.reduceLT, Int.reduceLE, Int.reduceBEq, Int.reduceEq, Int.reduceToNat, ir20, ↓hlen, ht1, ht2, h0]
    refine GCall.of (rnew_bad hb) ?_
    rintro v g ⟨rfl, rfl⟩
    simp -implicitDefEqProofs (disch := (first | omega | (simp -implicitDefEqProofs only [szs, ne_eq] <;> omega) | fail)) only [go_sem, Nat.reduceAdd, Nat.reduceSub, Nat.reduceMul, Nat.reduceLT, Nat.reduceMod, Nat.reduceDiv, Nat.reduceEqDiff, Nat.reduceBEq, Nat.reduceLeDiff, ↓reduceIte, reduceCtorEq, Int.reduceAdd, Int.reduceSub, Int.reduceLT, Int.reduceLE, Int.reduceBEq, Int.reduceEq, Int.reduceToNat, Option.isNone_none]
  · simp -implicitDefEqProofs (disch := (first | omega | (simp -implicitDefEqProofs only [szs, ne_eq] <;> omega) | fail)) only [go_sem, Nat.reduceAdd, Nat.reduceSub, Nat.reduceMul, Nat.reduceLT, Nat.reduceMod, Nat.reduceDiv, Nat.reduceEqDiff, Nat.reduceBEq, Nat.reduceLeDiff, ↓reduceIte, reduceCtorEq, Int.reduceAdd, Int.reduceSub, Int.reduceLT, Int.reduceLE, Int.reduceBEq, Int.reduceEq, Int.reduceToNat, ir20, ↓hlen, ht1]
theorem RefFresh.set {h : Heap} {n0 rd n s : Nat} {F : Nat → List V} {sb : Nat → Nat} {ch : List V} {cc : Blk} (hf : RefFresh h n0 rd n F sb) (hs : s < n) (hb : h.get (sb s) = some (.cells cc 5)) (hl : ch.length = 128) : RefFresh (h.set (sb s) (.cells (cc.putA 0 ch) 5)) n0 rd n (fun x => if x = s then ch else F x) sb := by
  obtain ⟨c, fb, pb, xf, c1, cs, cr, c0, c2, c3, rf, rp, ⟨cf, f1, f2, f3, f4⟩, p1⟩ := hf.d
  have hlt := Heap.lt_of_get hb
  have hN := secN_eq
  have ne : ∀ b c t, h.get b = some (.cells c t) → t ≠ 5 → (h.set (sb s) (.cells (cc.putA 0 ch) 5)).get b = some (.cells c t) := fun b c t e ht => by
    have : b ≠ sb s := fun e2 => by rw [e2, hb] at e; cases e; exact ht rfl
    rw [w_set_ne hlt this]; exact e
  refine ⟨hf.lo, ⟨c, fb, pb, xf, ne _ _ _ c1 (by decide), cs, cr, c0, c2, c3, rf, rp, ⟨cf, ne _ _ _ f1 (by decide), f2, f3, f4⟩, ne _ _ _ p1 (by decide)⟩, fun x hx => ?_, hf.inj⟩
  obtain ⟨h1, c2', e1, e2, e3, e4⟩ := hf.s x hx
  refine ⟨h1, ?_⟩
  by_cases hxs : x = s
  · subst hxs
    rw [hb] at e1; cases e1
    exact ⟨_, w_set_eq hlt rfl _, by rw [Blk.size_putA]; exact e2, by rw [Blk.ro_putA]; exact e3, by rw [if_pos rfl]; exact Blk.gets_putA_same (by omega) (by omega)⟩
  · rw [w_set_ne hlt (hf.inj x s hx hs hxs)]
    exact ⟨c2', e1, e2, e3, by rw [if_neg hxs]; exact e4⟩
set_option maxHeartbeats 1000000 in
theorem rof_ok {h : Heap} {R W S : Set'} {v : V} {l : List V} {n : Nat} (hv : LR h S v l) (hc : capOk v) (hbyt : ∀ x ∈ l, ∃ n : Int, x = .int .u8 n ∧ 0 ≤ n ∧ n ≤ 255) (hn : l.length = n * 128) (hn2 : 1 ≤ n ∧ n ≤ 4096) (hR : ∀ b, R b) : SF Try.prog 20 [v] h R W fun v h' => v = .ptr (some (h.n + 1, 0)) ∧ (∃ sb, RefFresh h' h.n (h.n + 1) n (fillF l n) sb) ∧ ∀ b, b < h.n → h'.get b = h.get b := by
  have hlen := hv.lenV Try.underlying33
  have ht1 : (l.length : Int).tmod 128 = 0 := by
    rw [show (l.length : Int).tmod 128 = ((l.length % 128 : Nat) : Int) from rfl]; omega
  have ht2 : (l.length : Int).tdiv 128 = (n : Int) := by
    rw [show (l.length : Int).tdiv 128 = ((l.length / 128 : Nat) : Int) from rfl]; omega
  refine SF.go hm Try.func20 ir20_eq ?_
  simp -implicitDefEqProofs (disch := (first | omega | (simp -implicitDefEqProofs only [szs, ne_eq] <;> omega) | fail)) only [go_sem, Nat.reduceAdd, Nat.reduceSub, Nat.reduceMul, Nat.reduceLT, Nat.reduceMod, Nat.reduceDiv, Nat.reduceEqDiff, Nat.reduceBEq, Nat.reduceLeDiff, ↓reduceIte, reduceCtorEq, Int.reduceAdd, Int.reduceSub, Int.reduceLT, Int.reduceLE, Int.reduceBEq, Int.reduceEq, Int.reduceToNat, ir20, ↓hlen, ht1, ht2]
  refine GCall.of (rnew_ok hn2 (fun b => .inr (hR b))) ?_
  rintro w g ⟨rfl, ⟨sb, hf⟩, hold⟩
  simp -implicitDefEqProofs (disch := (first | omega | (simp -implicitDefEqProofs only [szs, ne_eq] <;> omega) | fail)) only [go_sem, Nat.reduceAdd, Nat.reduceSub, Nat.reduceMul, Nat.reduceLT, Nat.reduceMod, Nat.reduceDiv, Nat.reduceEqDiff, Nat.reduceBEq, Nat.reduceLeDiff, ↓reduceIte, reduceCtorEq, Int.reduceAdd, Int.reduceSub, Int.reduceLT, Int.reduceLE, Int.reduceBEq, Int.reduceEq, Int.reduceToNat, Option.isNone_some]
  refine GLoop.inv hm (fun k f g => f.mks = [] ∧ f.tm.n = 37 ∧ f.tm.get 0 = some v ∧ f.tm.get 3 = some (.ptr (some (h.n + 1, 0))) ∧ ∃ i : Nat, i + k = n ∧ f.tm.get 4 = some (.int .i64 i) ∧ RefFresh g h.n (h.n + 1) n (fillF l i) sb ∧ ∀ b, b < h.n → g.get b = h.get b) n ?_ ?_
  · exact ⟨rfl, rfl, by simp -implicitDefEqProofs (disch := (first | omega | (simp -implicitDefEqProofs only [szs, ne_eq] <;> omega) | fail)) only [go_sem, Nat.reduceAdd, Nat.reduceSub, Nat.reduceMul, Nat.reduceLT, Nat.reduceMod, Nat.reduceDiv, Nat.reduceEqDiff, Nat.reduceBEq, Nat.reduceLeDiff, ↓reduceIte, reduceCtorEq, Int.reduceAdd, Int.reduceSub, Int.reduceLT, Int.reduceLE, Int.reduceBEq, Int.reduceEq, Int.reduceToNat], by simp -implicitDefEqProofs (disch := (first | omega | (simp -implicitDefEqProofs only [szs, ne_eq] <;> omega) | fail)) only [go_sem, Nat.reduceAdd, Nat.reduceSub, Nat.reduceMul, Nat.reduceLT, Nat.reduceMod, Nat.reduceDiv, Nat.reduceEqDiff, Nat.reduceBEq, Nat.reduceLeDiff, ↓reduceIte, reduceCtorEq, Int.reduceAdd, Int.reduceSub, Int.reduceLT, Int.reduceLE, Int.reduceBEq, Int.reduceEq, Int.reduceToNat], 0, by omega, by simp -implicitDefEqProofs (disch := (first | omega | (simp -implicitDefEqProofs only [szs, ne_eq] <;> omega) | fail)) only [go_sem, Nat.reduceAdd, Nat.reduceSub, Nat.reduceMul, Nat.reduceLT, Nat.reduceMod, Nat.reduceDiv, Nat.reduceEqDiff, Nat.reduceBEq, Nat.reduceLeDiff, ↓reduceIte, reduceCtorEq, Int.reduceAdd, Int.reduceSub, Int.reduceLT, Int.reduceLE, Int.reduceBEq, Int.reduceEq, Int.reduceToNat]; rfl, by rw [fillF_zero]; exact hf, hold⟩
  clear hold hf
  rintro k ⟨⟨n', tr⟩, mks⟩ g ⟨hmk, hn', t0, t3, i, hi, t4, hf, hold⟩
  simp only [Tm.get_mk] at hmk hn' t0 t3 t4
  subst hmk hn'
  obtain ⟨c, fb, pb, xf, c1, cs, cr, c0, c2, c3, rf, rp, ⟨cf, f1, f2, f3, f4⟩, p1⟩ := hf.d
  have hR1 := hR (h.n + 1)
  have hRf := hR fb
  by_cases hin : i < n
  · obtain ⟨h1, cc, e1, e2, e3, e4⟩ := hf.s i hin
    have hlt := Heap.lt_of_get e1
    have hfi := f4 i hin
    obtain ⟨v', hsl, hl', hv'⟩ := slice_from (hv.old hold) hc (k := i * 128) (by omega)
    obtain ⟨rs, hcp, hrs⟩ := copy_sec (cap := 128) (ex := true) (off := 0) hn hin hl' hv' hbyt e1 (by omega) e3
    rw [show ((i * 128 : Nat) : Int) = (i : Int) * 128 by omega] at hsl
    simp -implicitDefEqProofs (disch := (first | omega | (simp -implicitDefEqProofs only [szs, ne_eq] <;> omega) | fail)) only [go_sem, Nat.reduceAdd, Nat.reduceSub, Nat.reduceMul, Nat.reduceLT, Nat.reduceMod, Nat.reduceDiv, Nat.reduceEqDiff, Nat.reduceBEq, Nat.reduceLeDiff, ↓reduceIte, reduceCtorEq, Int.reduceAdd, Int.reduceSub, Int.reduceLT, Int.reduceLE, Int.reduceBEq, Int.reduceEq, Int.reduceToNat, ir20_l0, t0, t3, t4, c1, cs, c0, hR1, f1, f2, hfi, hRf, hsl, hcp]
    refine ⟨⟨fun b _ _ => .inr (hR b), fun _ => .inl (by omega)⟩, k - 1, by omega, i + 1, by omega, rfl, ?_, fun b hb => by rw [w_set_ne hlt (by omega)]; exact hold b hb⟩
    rw [fillF_succ]
    exact hf.set hin e1 (chunk_sec hbyt hn hin).1
  · obtain rfl : i = n := by omega
    simp -implicitDefEqProofs (disch := (first | omega | (simp -implicitDefEqProofs only [szs, ne_eq] <;> omega) | fail)) only [go_sem, Nat.reduceAdd, Nat.reduceSub, Nat.reduceMul, Nat.reduceLT, Nat.reduceMod, Nat.reduceDiv, Nat.reduceEqDiff, Nat.reduceBEq, Nat.reduceLeDiff, ↓reduceIte, reduceCtorEq, Int.reduceAdd, Int.reduceSub, Int.reduceLT, Int.reduceLE, Int.reduceBEq, Int.reduceEq, Int.reduceToNat, ir20_l0, t0, t3, t4, c1, cs, c0, hR1]
    exact ⟨⟨sb, hf⟩, hold⟩
theorem of_nil {h : Heap} {R W S : Set'} {v : V} {l : List V} (hv : LR h S v l) (hl : l.length ≤ 9223372036854775807) (hb : l.length % 128 ≠ 0 ∨ ¬ (1 ≤ l.length / 128 ∧ l.length / 128 ≤ 4096)) : SF Try.prog 19 [v] h R W fun v h' => v = .tuple [.ptr none, .int .i64 2] ∧ h' = h := by
  have hlen := hv.lenV Try.underlying33
  have ht1 : (l.length : Int).tmod 128 = ((l.length % 128 : Nat) : Int) := rfl
  have ht2 : (l.length : Int).tdiv 128 = ((l.length / 128 : Nat) : Int) := rfl
  refine SF.go hm Try.func19 ir19_eq ?_
  by_cases h0 : l.length % 128 = 0
  · have hb : ¬ (1 ≤ ((l.length / 128 : Nat) : Int) ∧ ((l.length / 128 : Nat) : Int) ≤ 4096) := by rcases hb with h | h <;> omega
    simp -implicitDefEqProofs (disch := (first | omega | (simp -implicitDefEqProofs only [szs, ne_eq] <;> omega) | fail)) only [go_sem, Nat.reduceAdd, Nat.reduceSub, Nat.reduceMul, Nat.reduceLT, Nat.reduceMod, Nat.reduceDiv, Nat.reduceEqDiff, Nat.reduceBEq, Nat.reduceLeDiff, ↓reduceIte, reduceCtorEq, Int.reduceAdd, Int.reduceSub, Int.reduceLT, Int.reduceLE, Int.reduceBEq, Int.reduceEq, Int.reduceToNat, ir19, ↓hlen, ht1, ht2, h0]
    refine GCall.of (new_bad hb) ?_
    rintro v g ⟨rfl, rfl⟩
    simp -implicitDefEqProofs (disch := (first | omega | (simp -implicitDefEqProofs only [szs, ne_eq] <;> omega) | fail)) only [go_sem, Nat.reduceAdd, Nat.reduceSub, Nat.reduceMul, Nat.reduceLT, Nat.reduceMod, Nat.reduceDiv, Nat.reduceEqDiff, Nat.reduceBEq, Nat.reduceLeDiff, ↓reduceIte, reduceCtorEq, Int.reduceAdd, Int.reduceSub, Int.reduceLT, Int.reduceLE, Int.reduceBEq, Int.reduceEq, Int.reduceToNat]
  · simp -implicitDefEqProofs (disch := (first | omega | (simp -implicitDefEqProofs only [szs, ne_eq] <;> omega) | fail)) only [go_sem, Nat.reduceAdd, Nat.reduceSub, Nat.reduceMul, Nat.reduceLT, Nat.reduceMod, Nat.reduceDiv, Nat.reduceEqDiff, Nat.reduceBEq, Nat.reduceLeDiff, ↓reduceIte, reduceCtorEq, Int.reduceAdd, Int.reduceSub, Int.reduceLT, Int.reduceLE, Int.reduceBEq, Int.reduceEq, Int.reduceToNat, ir19, ↓hlen, ht1]
set_option maxHeartbeats 1000000 in
theorem of_ok {h : Heap} {R W S : Set'} {v : V} {l : List V} {n : Nat} (hv : LR h S v l) (hc : capOk v) (hbyt : ∀ x ∈ l, ∃ n : Int, x = .int .u8 n ∧ 0 ≤ n ∧ n ≤ 255) (hn : l.length = n * 128) (hn2 : 1 ≤ n ∧ n ≤ 4096) (hR : ∀ b, R b) : SF Try.prog 19 [v] h R W fun v h' => ∃ L : DL, v = .tuple [.ptr (some (h.n + 2, 0)), .int .i64 0] ∧ h.n ≤ L.fb ∧ h.n ≤ L.mb ∧ DiskAt h' (h.n + 2) L (DS.ofB l n) ∧ ∀ b, b < h.n → h'.get b = h.get b := by
  have hlen := hv.lenV Try.underlying33
  have hN := secN_eq
  have ht1 : (l.length : Int).tmod 128 = 0 := by
    rw [show (l.length : Int).tmod 128 = ((l.length % 128 : Nat) : Int) from rfl]; omega
  have ht2 : (l.length : Int).tdiv 128 = (n : Int) := by
    rw [show (l.length : Int).tdiv 128 = ((l.length / 128 : Nat) : Int) from rfl]; omega
  refine SF.go hm Try.func19 ir19_eq ?_
  simp -implicitDefEqProofs (disch := (first | omega | (simp -implicitDefEqProofs only [szs, ne_eq] <;> omega) | fail)) only [go_sem, Nat.reduceAdd, Nat.reduceSub, Nat.reduceMul, Nat.reduceLT, Nat.reduceMod, Nat.reduceDiv, Nat.reduceEqDiff, Nat.reduceBEq, Nat.reduceLeDiff, ↓reduceIte, reduceCtorEq, Int.reduceAdd, Int.reduceSub, Int.reduceLT, Int.reduceLE, Int.reduceBEq, Int.reduceEq, Int.reduceToNat, ir19, ↓hlen, ht1, ht2]
  refine GCall.of (((new_ok (R := R) (W := fun _ => False) (n := n) (by omega)).kept).foot (fun _ h => .inr h) (fun _ h => h.elim)) ?_
  rintro w g ⟨⟨L, rfl, hfb, hmb, hd⟩, vf⟩
  have hold : ∀ b, b < h.n → g.get b = h.get b := fun b hb => vf.get b hb id
  rw [show (n : Int).toNat = n by omega] at hd
  obtain ⟨c, d1, d2, d3, d4, d5, d6⟩ := hd.d
  have hDn : (DS.new n).n = n := rfl
  rw [hDn] at d4
  have hR2 := hR (h.n + 2)
  simp -implicitDefEqProofs (disch := (first | omega | (simp -implicitDefEqProofs only [szs, ne_eq] <;> omega) | fail)) only [go_sem, Nat.reduceAdd, Nat.reduceSub, Nat.reduceMul, Nat.reduceLT, Nat.reduceMod, Nat.reduceDiv, Nat.reduceEqDiff, Nat.reduceBEq, Nat.reduceLeDiff, ↓reduceIte, reduceCtorEq, Int.reduceAdd, Int.reduceSub, Int.reduceLT, Int.reduceLE, Int.reduceBEq, Int.reduceEq, Int.reduceToNat, d1, d2, d4, hR2]
  refine GLoop.inv hm (fun k f g => f.mks = [] ∧ f.tm.n = 43 ∧ f.tm.get 0 = some v ∧ f.tm.get 4 = some (.ptr (some (h.n + 2, 0))) ∧ f.tm.get 25 = some (.int .i64 n) ∧ ∃ i : Nat, i + k = n ∧ f.tm.get 26 = some (.int .i64 i) ∧ DiskAt g (h.n + 2) L ((DS.new n).crashed (fillF l i)) ∧ ∀ b, b < h.n → g.get b = h.get b) n ?_ ?_
  · exact ⟨rfl, rfl, by simp -implicitDefEqProofs (disch := (first | omega | (simp -implicitDefEqProofs only [szs, ne_eq] <;> omega) | fail)) only [go_sem, Nat.reduceAdd, Nat.reduceSub, Nat.reduceMul, Nat.reduceLT, Nat.reduceMod, Nat.reduceDiv, Nat.reduceEqDiff, Nat.reduceBEq, Nat.reduceLeDiff, ↓reduceIte, reduceCtorEq, Int.reduceAdd, Int.reduceSub, Int.reduceLT, Int.reduceLE, Int.reduceBEq, Int.reduceEq, Int.reduceToNat], by simp -implicitDefEqProofs (disch := (first | omega | (simp -implicitDefEqProofs only [szs, ne_eq] <;> omega) | fail)) only [go_sem, Nat.reduceAdd, Nat.reduceSub, Nat.reduceMul, Nat.reduceLT, Nat.reduceMod, Nat.reduceDiv, Nat.reduceEqDiff, Nat.reduceBEq, Nat.reduceLeDiff, ↓reduceIte, reduceCtorEq, Int.reduceAdd, Int.reduceSub, Int.reduceLT, Int.reduceLE, Int.reduceBEq, Int.reduceEq, Int.reduceToNat], by simp -implicitDefEqProofs (disch := (first | omega | (simp -implicitDefEqProofs only [szs, ne_eq] <;> omega) | fail)) only [go_sem, Nat.reduceAdd, Nat.reduceSub, Nat.reduceMul, Nat.reduceLT, Nat.reduceMod, Nat.reduceDiv, Nat.reduceEqDiff, Nat.reduceBEq, Nat.reduceLeDiff, ↓reduceIte, reduceCtorEq, Int.reduceAdd, Int.reduceSub, Int.reduceLT, Int.reduceLE, Int.reduceBEq, Int.reduceEq, Int.reduceToNat], 0, by omega, by simp -implicitDefEqProofs (disch := (first | omega | (simp -implicitDefEqProofs only [szs, ne_eq] <;> omega) | fail)) only [go_sem, Nat.reduceAdd, Nat.reduceSub, Nat.reduceMul, Nat.reduceLT, Nat.reduceMod, Nat.reduceDiv, Nat.reduceEqDiff, Nat.reduceBEq, Nat.reduceLeDiff, ↓reduceIte, reduceCtorEq, Int.reduceAdd, Int.reduceSub, Int.reduceLT, Int.reduceLE, Int.reduceBEq, Int.reduceEq, Int.reduceToNat]; rfl, by rw [fillF_zero]; exact hd, hold⟩
  clear hold hd d1 d2 d3 d4 d5 d6
  rintro k ⟨⟨n', tr⟩, mks⟩ g ⟨hmk, hn', t0, t4, t25, i, hi, t26, hd, hold⟩
  simp only [Tm.get_mk] at hmk hn' t0 t4 t25 t26
  subst hmk hn'
  by_cases hin : i < n
  · obtain ⟨c, d1, d2, d3, d4, d5, d6⟩ := hd.d
    obtain ⟨f, f1, f2, f3, f4⟩ := hd.f
    have hDn : ((DS.new n).crashed (fillF l i)).n = n := rfl
    rw [hDn] at d4 f2
    have hlt := Heap.lt_of_get f1
    have hRf := hR L.fb
    obtain ⟨v', hsl, hl', hv'⟩ := slice_from (hv.old hold) hc (k := i * 128) (by omega)
    obtain ⟨rs, hcp, hrs⟩ := copy_sec (cap := 128) (ex := true) (off := i * 128) hn hin hl' hv' hbyt f1 (by omega) f3
    rw [show ((i * 128 : Nat) : Int) = (i : Int) * 128 by omega] at hsl
    simp -implicitDefEqProofs (disch := (first | omega | (simp -implicitDefEqProofs only [szs, ne_eq] <;> omega) | fail)) only [go_sem, Nat.reduceAdd, Nat.reduceSub, Nat.reduceMul, Nat.reduceLT, Nat.reduceMod, Nat.reduceDiv, Nat.reduceEqDiff, Nat.reduceBEq, Nat.reduceLeDiff, ↓reduceIte, reduceCtorEq, Int.reduceAdd, Int.reduceSub, Int.reduceLT, Int.reduceLE, Int.reduceBEq, Int.reduceEq, Int.reduceToNat, ir19_l0, t0, t4, t25, t26, d1, d2, d4, hR2, f1, f2, hRf, sl_67, sz67, hN, hsl, hcp]
    refine ⟨⟨fun b _ _ => .inr (hR b), fun _ => .inl (by omega)⟩, k - 1, by omega, i + 1, by omega, rfl, ?_, fun b hb => by rw [w_set_ne hlt (by omega)]; exact hold b hb⟩
    rw [fillF_succ]
    exact hd.poke hin (chunk_sec hbyt hn hin) f1 (by rw [w_set_eq hlt rfl]) (fun b hb _ => w_set_ne hlt hb _)
  · obtain rfl : i = n := by omega
    simp -implicitDefEqProofs (disch := (first | omega | (simp -implicitDefEqProofs only [szs, ne_eq] <;> omega) | fail)) only [go_sem, Nat.reduceAdd, Nat.reduceSub, Nat.reduceMul, Nat.reduceLT, Nat.reduceMod, Nat.reduceDiv, Nat.reduceEqDiff, Nat.reduceBEq, Nat.reduceLeDiff, ↓reduceIte, reduceCtorEq, Int.reduceAdd, Int.reduceSub, Int.reduceLT, Int.reduceLE, Int.reduceBEq, Int.reduceEq, Int.reduceToNat, ir19_l0, t0, t4, t25, t26]
    exact ⟨L, hfb, hmb, hd, hold⟩
end Go.Proofs.Ytgkcbpagdfdpdaa
