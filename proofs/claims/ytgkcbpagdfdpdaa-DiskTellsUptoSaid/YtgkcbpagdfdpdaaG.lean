/- Sectors full of a byte, texts of sectors, Bytes. -/
import Derived.Test.YtgkcbpagdfdpdaaF
set_option linter.unusedVariables false
set_option linter.unusedSimpArgs false
set_option linter.unusedSimpArgs false
set_option maxRecDepth 100000
set_option linter.unusedVariables false
set_option linter.unusedSimpArgs false
namespace Go.Vm
theorem append_in {e sz bytes off sLen sCap n o xcap : Nat} {ex xex : Bool} {h : Heap} {b xb : Nat} {c cx : Blk} {ce te : TypeId} {vs : List V} (hx : h.get xb = some (.cells cx te)) (hs : o + n * sz ≤ cx.size) (hv : cx.gets o (n * sz) = vs) (hone : allOne vs = true) (hb : h.get b = some (.cells c ce)) (hc : sLen + n ≤ sCap) (hcs : off + sLen * sz + n * sz ≤ c.size) (hro : c.ro = false) :
    appE e sz bytes (.slice (some (b, off)) sLen sCap ex) (.slice (some (xb, o)) n xcap xex) h = some ⟨.slice (some (b, off)) (sLen + n) sCap ex, h.set b (.cells (c.putA (off + sLen * sz) vs) ce), [xb], [b]⟩ := by
  have hl : vs.length = n * sz := by rw [← hv, Blk.length_gets]
  unfold appE
  simp only [lenOfV, firstV, hx, w_ble_t hs, hv, w_beq_t hl, w_ble_t hc, appendIn, hb, hl, w_ble_t hcs, hone, hro, w_beq_t (rfl : n * sz = n * sz)]
end Go.Vm
namespace Go.Proofs.Ytgkcbpagdfdpdaa
open Go Go.Vm
attribute [-go_sem] sz_67
def byteOf : V → UInt8
  | .int _ n => UInt8.ofNat n.toNat
  | _ => 0
def strB (l : List V) : ByteArray := ⟨⟨l.map byteOf⟩⟩
theorem strL_of : ∀ {l : List V}, (∀ v ∈ l, ∃ n : Int, v = .int .u8 n ∧ 0 ≤ n ∧ n ≤ 255) → strL l = some (l.map byteOf)
  | [], _ => rfl
  | v :: r, h => by
    obtain ⟨n, rfl, _⟩ := h v (by simp)
    rw [strL, strL_of fun v hv => h v (by simp [hv])]
    rfl
theorem conv_str {h : Heap} {b o len cap : Nat} {ex : Bool} {c : Blk} {ce : TypeId} {l : List V} (hb : h.get b = some (.cells c ce)) (hs : o + len ≤ c.size) (hg : c.gets o len = l) (hl : ∀ v ∈ l, ∃ n : Int, v = .int .u8 n ∧ 0 ≤ n ∧ n ≤ 255) :
    convV Try.prog 33 9 (.slice (some (b, o)) len cap ex) h = some (.str (strB l), [b]) := by
  simp only [convV, Try.underlying33, Try.underlying9, Try.underlying5, hb, w_ble_t hs, hg, strL_of hl]
  rfl
theorem cv_op {M : MP} {R W : Set'} {tm : Tm} {h : Heap} {K : V → Heap → Prop} (x : Operand) : LOp M R W tm h (.convert 33 9 x) K = onO (evV tm x) fun a => onO (convV M.P 33 9 a h) fun r => allB R r.2 ∧ K r.1 h := by
  apply LOp_convert; decide
theorem cv_opD {P : Program} {tm : Tm} {h : Heap} {K : V → Heap → Set' → Set' → Prop} (x : Operand) : LOpD P tm h (.convert 33 9 x) K = onO (evV tm x) fun a => onO (convV P 33 9 a h) fun r => K r.1 h (fun x => x ∈ r.2) (fun x => x ∈ ([] : List Nat)) := by
  apply LOpD_convert; decide
/-- A sector full of a byte. -/
def secF (c : Int) : List V := List.replicate secN (.int .u8 c)
theorem secF_sec {c : Int} (hc : 0 ≤ c ∧ c ≤ 255) : IsSec (secF c) := ⟨by simp [secF], fun v hv => ⟨c, (List.mem_replicate.1 hv).2, hc⟩⟩
theorem secF_zero : secF 0 = ze_67 := ze_eq.symm
theorem sector_ok {h : Heap} {R W : Set'} {c : Int} : SF Try.prog 12 [.int .u8 c] h R W fun v h' => v = .slice (some (h.n, 0)) 128 128 true ∧ h'.n = h.n + 1 ∧ (∃ cc, h'.get h.n = some (.cells cc 5) ∧ cc.size = 128 ∧ cc.ro = false ∧ cc.gets 0 secN = secF c) ∧ ∀ b, b < h.n → h'.get b = h.get b := by
  refine SF.go hm Try.func12 ir12_eq ?_
  simp -implicitDefEqProofs (disch := (first | omega | (simp -implicitDefEqProofs only [szs, ne_eq] <;> omega) | fail)) only [go_sem, Nat.reduceAdd, Nat.reduceSub, Nat.reduceMul, Nat.reduceLT, Nat.reduceMod, Nat.reduceDiv, Nat.reduceEqDiff, Nat.reduceBEq, Nat.reduceLeDiff, ↓reduceIte, reduceCtorEq, Int.reduceAdd, Int.reduceSub, Int.reduceLT, Int.reduceLE, Int.reduceBEq, Int.reduceEq, Int.reduceToNat, ir12]
  refine GLoop.inv hm (fun k f g => f.mks = [] ∧ f.tm.n = 15 ∧ f.tm.get 0 = some (.int .u8 c) ∧ f.tm.get 3 = some (.slice (some (h.n, 0)) 128 128 true) ∧ ∃ j : Nat, j + k = 128 ∧ f.tm.get 4 = some (.int .i64 j) ∧ g.n = h.n + 1 ∧ (∃ cc, g.get h.n = some (.cells cc 5) ∧ cc.size = 128 ∧ cc.ro = false ∧ ∀ i, i < j → cc.get i = .int .u8 c) ∧ ∀ b, b < h.n → g.get b = h.get b) 128 ?_ ?_
  · refine ⟨rfl, rfl, by simp -implicitDefEqProofs (disch := (first | omega | (simp -implicitDefEqProofs only [szs, ne_eq] <;> omega) | fail)) only [go_sem, Nat.reduceAdd, Nat.reduceSub, Nat.reduceMul, Nat.reduceLT, Nat.reduceMod, Nat.reduceDiv, Nat.reduceEqDiff, Nat.reduceBEq, Nat.reduceLeDiff, ↓reduceIte, reduceCtorEq, Int.reduceAdd, Int.reduceSub, Int.reduceLT, Int.reduceLE, Int.reduceBEq, Int.reduceEq, Int.reduceToNat], by simp -implicitDefEqProofs (disch := (first | omega | (simp -implicitDefEqProofs only [szs, ne_eq] <;> omega) | fail)) only [go_sem, Nat.reduceAdd, Nat.reduceSub, Nat.reduceMul, Nat.reduceLT, Nat.reduceMod, Nat.reduceDiv, Nat.reduceEqDiff, Nat.reduceBEq, Nat.reduceLeDiff, ↓reduceIte, reduceCtorEq, Int.reduceAdd, Int.reduceSub, Int.reduceLT, Int.reduceLE, Int.reduceBEq, Int.reduceEq, Int.reduceToNat], 0, by omega, by simp -implicitDefEqProofs (disch := (first | omega | (simp -implicitDefEqProofs only [szs, ne_eq] <;> omega) | fail)) only [go_sem, Nat.reduceAdd, Nat.reduceSub, Nat.reduceMul, Nat.reduceLT, Nat.reduceMod, Nat.reduceDiv, Nat.reduceEqDiff, Nat.reduceBEq, Nat.reduceLeDiff, ↓reduceIte, reduceCtorEq, Int.reduceAdd, Int.reduceSub, Int.reduceLT, Int.reduceLE, Int.reduceBEq, Int.reduceEq, Int.reduceToNat]; rfl, by simp, ⟨_, w_push_eq rfl _, rfl, rfl, fun i hi => by omega⟩, fun b hb => by simp -implicitDefEqProofs (disch := (first | omega | (simp -implicitDefEqProofs only [szs, ne_eq] <;> omega) | fail)) only [go_sem, Nat.reduceAdd, Nat.reduceSub, Nat.reduceMul, Nat.reduceLT, Nat.reduceMod, Nat.reduceDiv, Nat.reduceEqDiff, Nat.reduceBEq, Nat.reduceLeDiff, ↓reduceIte, reduceCtorEq, Int.reduceAdd, Int.reduceSub, Int.reduceLT, Int.reduceLE, Int.reduceBEq, Int.reduceEq, Int.reduceToNat]⟩
  · rintro k ⟨⟨n', tr⟩, mks⟩ g ⟨hmk, hn', t0, t3, j, hj, t4, gn, ⟨cc, c1, c2, c3, c4⟩, hold⟩
    simp only [Tm.get_mk] at hmk hn' t0 t3 t4
    subst hmk hn'
    by_cases hjm : j < 128
    · simp -implicitDefEqProofs (disch := (first | omega | (simp -implicitDefEqProofs only [szs, ne_eq] <;> omega) | fail)) only [go_sem, Nat.reduceAdd, Nat.reduceSub, Nat.reduceMul, Nat.reduceLT, Nat.reduceMod, Nat.reduceDiv, Nat.reduceEqDiff, Nat.reduceBEq, Nat.reduceLeDiff, ↓reduceIte, reduceCtorEq, Int.reduceAdd, Int.reduceSub, Int.reduceLT, Int.reduceLE, Int.reduceBEq, Int.reduceEq, Int.reduceToNat, ir12_l0, t0, t3, t4, c1, c2, c3]
      refine ⟨k - 1, by omega, j + 1, by omega, by simp, by omega, ⟨cc.set j (.int .u8 c), by simp -implicitDefEqProofs (disch := (first | omega | (simp -implicitDefEqProofs only [szs, ne_eq] <;> omega) | fail)) only [go_sem, Nat.reduceAdd, Nat.reduceSub, Nat.reduceMul, Nat.reduceLT, Nat.reduceMod, Nat.reduceDiv, Nat.reduceEqDiff, Nat.reduceBEq, Nat.reduceLeDiff, ↓reduceIte, reduceCtorEq, Int.reduceAdd, Int.reduceSub, Int.reduceLT, Int.reduceLE, Int.reduceBEq, Int.reduceEq, Int.reduceToNat], by rw [Blk.size_set]; exact c2, by rw [Blk.ro_set]; exact c3, fun i hi => ?_⟩, fun b hb => by simp -implicitDefEqProofs (disch := (first | omega | (simp -implicitDefEqProofs only [szs, ne_eq] <;> omega) | fail)) only [go_sem, Nat.reduceAdd, Nat.reduceSub, Nat.reduceMul, Nat.reduceLT, Nat.reduceMod, Nat.reduceDiv, Nat.reduceEqDiff, Nat.reduceBEq, Nat.reduceLeDiff, ↓reduceIte, reduceCtorEq, Int.reduceAdd, Int.reduceSub, Int.reduceLT, Int.reduceLE, Int.reduceBEq, Int.reduceEq, Int.reduceToNat, hold]⟩
      by_cases e : i = j
      · subst e; rw [w_bset_eq rfl]
      · rw [w_bset_ne e]; exact c4 i (by omega)
    · have : j = 128 := by omega
      subst this
      have hN := secN_eq
      simp -implicitDefEqProofs (disch := (first | omega | (simp -implicitDefEqProofs only [szs, ne_eq] <;> omega) | fail)) only [go_sem, Nat.reduceAdd, Nat.reduceSub, Nat.reduceMul, Nat.reduceLT, Nat.reduceMod, Nat.reduceDiv, Nat.reduceEqDiff, Nat.reduceBEq, Nat.reduceLeDiff, ↓reduceIte, reduceCtorEq, Int.reduceAdd, Int.reduceSub, Int.reduceLT, Int.reduceLE, Int.reduceBEq, Int.reduceEq, Int.reduceToNat, ir12_l0, t0, t3, t4]
      refine ⟨by omega, ⟨cc, c1, c2, c3, ?_⟩, hold⟩
      refine Blk.gets_ext (fun i hi => ?_) (by simp [secF])
      have hi : i < 128 := by simpa [secF, hN] using hi
      rw [Nat.zero_add, c4 i hi, List.getD_eq_getElem?_getD, secF, List.getElem?_replicate, if_pos (by omega)]; rfl
theorem num_ok {h : Heap} {R W : Set'} (n : Int) : SF Try.prog 11 [.int .i64 n] h R W fun v h' => v = .int .i64 n ∧ h' = h := by
  refine SF.go hm Try.func11 ir11_eq ?_
  simp -implicitDefEqProofs (disch := (first | omega | (simp -implicitDefEqProofs only [szs, ne_eq] <;> omega) | fail)) only [go_sem, Nat.reduceAdd, Nat.reduceSub, Nat.reduceMul, Nat.reduceLT, Nat.reduceMod, Nat.reduceDiv, Nat.reduceEqDiff, Nat.reduceBEq, Nat.reduceLeDiff, ↓reduceIte, reduceCtorEq, Int.reduceAdd, Int.reduceSub, Int.reduceLT, Int.reduceLE, Int.reduceBEq, Int.reduceEq, Int.reduceToNat, ir11]
theorem reads_ok {h : Heap} {R W : Set'} {bd : Nat} {L : DL} {D : DS} (hd : DiskAt h bd L D) (hR : ∀ b, Foot bd L D b → R b) {s : Nat} (hs : s < D.n) : SF Try.prog 17 [.ptr (some (bd, 0)), .int .i64 s] h R W fun v h' => v = .str (strB (D.seen s)) ∧ ∀ b, b < h.n → h'.get b = h.get b := by
  refine SF.go hm Try.func17 ir17_eq ?_
  simp -implicitDefEqProofs (disch := (first | omega | (simp -implicitDefEqProofs only [szs, ne_eq] <;> omega) | fail)) only [go_sem, Nat.reduceAdd, Nat.reduceSub, Nat.reduceMul, Nat.reduceLT, Nat.reduceMod, Nat.reduceDiv, Nat.reduceEqDiff, Nat.reduceBEq, Nat.reduceLeDiff, ↓reduceIte, reduceCtorEq, Int.reduceAdd, Int.reduceSub, Int.reduceLT, Int.reduceLE, Int.reduceBEq, Int.reduceEq, Int.reduceToNat, ir17]
  refine GCall.of ((read_ok (W := W) hd hR hs).foot (fun _ h => .inr h) (fun _ h => .inr h)) ?_
  rintro v h2 ⟨b, rfl, ⟨c, c1, c2, c3, c4⟩, hb1, hb2, hold⟩
  simp -implicitDefEqProofs (disch := (first | omega | (simp -implicitDefEqProofs only [szs, ne_eq] <;> omega) | fail)) only [go_sem, Nat.reduceAdd, Nat.reduceSub, Nat.reduceMul, Nat.reduceLT, Nat.reduceMod, Nat.reduceDiv, Nat.reduceEqDiff, Nat.reduceBEq, Nat.reduceLeDiff, ↓reduceIte, reduceCtorEq, Int.reduceAdd, Int.reduceSub, Int.reduceLT, Int.reduceLE, Int.reduceBEq, Int.reduceEq, Int.reduceToNat]
  refine GCall.of (num_ok 0) ?_
  rintro v h3 ⟨rfl, rfl⟩
  have hN := secN_eq
  have hcv := conv_str (cap := 128) (ex := true) (o := 0) (len := 128) c1 (by omega) c4 (hd.seen hs).2
  simp -implicitDefEqProofs (disch := (first | omega | (simp -implicitDefEqProofs only [szs, ne_eq] <;> omega) | fail)) only [go_sem, Nat.reduceAdd, Nat.reduceSub, Nat.reduceMul, Nat.reduceLT, Nat.reduceMod, Nat.reduceDiv, Nat.reduceEqDiff, Nat.reduceBEq, Nat.reduceLeDiff, ↓reduceIte, reduceCtorEq, Int.reduceAdd, Int.reduceSub, Int.reduceLT, Int.reduceLE, Int.reduceBEq, Int.reduceEq, Int.reduceToNat, ↓cv_op, hcv]
  exact ⟨.inl hb1, hold⟩
def flatF (f : Nat → List V) : Nat → List V
  | 0 => []
  | n + 1 => flatF f n ++ f n
theorem flatF_len {f : Nat → List V} : ∀ {n : Nat}, (∀ s, s < n → IsSec (f s)) → (flatF f n).length = n * 128
  | 0, _ => rfl
  | n + 1, h => by
    have := (h n (by omega)).1
    have hN := secN_eq
    rw [flatF, List.length_append, flatF_len fun s hs => h s (by omega)]; omega
theorem flatF_int {f : Nat → List V} : ∀ {n : Nat}, (∀ s, s < n → IsSec (f s)) → ∀ v ∈ flatF f n, ∃ n : Int, v = .int .u8 n ∧ 0 ≤ n ∧ n ≤ 255
  | 0, _, v, hv => by cases hv
  | n + 1, h, v, hv => by
    rcases List.mem_append.1 hv with hv | hv
    · exact flatF_int (fun s hs => h s (by omega)) v hv
    · exact (h n (by omega)).2 v hv
theorem flatF_congr {f g : Nat → List V} : ∀ {n : Nat}, (∀ s, s < n → f s = g s) → flatF f n = flatF g n
  | 0, _ => rfl
  | n + 1, h => by rw [flatF, flatF, flatF_congr fun s hs => h s (by omega), h n (by omega)]
theorem ap_33 : apT Try.prog 33 33 = some (5, 1, 1) := by kernel_rfl
theorem gets_split (c : Blk) (o : Nat) : ∀ (n m : Nat), c.gets o (n + m) = c.gets o n ++ c.gets (o + n) m := by
  intro n m
  refine Blk.gets_ext (fun j hj => ?_) (by rw [List.length_append, Blk.length_gets, Blk.length_gets])
  rw [List.length_append, Blk.length_gets, Blk.length_gets] at hj
  rw [List.getD_eq_getElem?_getD]
  by_cases h : j < n
  · rw [List.getElem?_append_left (by rw [Blk.length_gets]; exact h), Blk.gets_get _ _ _ _ h]; rfl
  · rw [List.getElem?_append_right (by rw [Blk.length_gets]; omega), Blk.length_gets, Blk.gets_get _ _ _ _ (by omega), show o + n + (j - n) = o + j by omega]; rfl
theorem sl_67 (b o : Nat) : sliceV Try.prog 67 (.ptr (some (b, o))) none none none = some (.slice (some (b, o)) 128 128 true) := by
  simp only [sliceV, Try.underlying67, sz_5, boundsV]
  rfl
theorem bytes_ok {h : Heap} {R W : Set'} {bd : Nat} {L : DL} {D : DS} (hd : DiskAt h bd L D) (hR : ∀ b, Foot bd L D b → R b) : SF Try.prog 18 [.ptr (some (bd, 0))] h R W fun v h' => v = .slice (some (h.n, 0)) (D.n * 128) (D.n * 128) true ∧ h'.n = h.n + 1 ∧ (∃ cc, h'.get h.n = some (.cells cc 5) ∧ cc.size = D.n * 128 ∧ cc.ro = false ∧ cc.gets 0 (D.n * 128) = flatF D.fl D.n) ∧ ∀ b, b < h.n → h'.get b = h.get b := by
  obtain ⟨c, h1, sz, ro, c0, c1, c2⟩ := hd.d
  obtain ⟨f, f1, fs, fro, fg⟩ := hd.f
  have hfl := hd.fl
  have hp := hd.pos
  have hR1 := hR bd (.inl rfl)
  have hR2 := hR L.fb (.inr (.inl rfl))
  have hlt1 := Heap.lt_of_get h1
  have hlt2 := Heap.lt_of_get f1
  have hN := secN_eq
  refine SF.go hm Try.func18 ir18_eq ?_
  simp -implicitDefEqProofs (disch := (first | omega | (simp -implicitDefEqProofs only [szs, ne_eq] <;> omega) | fail)) only [go_sem, Nat.reduceAdd, Nat.reduceSub, Nat.reduceMul, Nat.reduceLT, Nat.reduceMod, Nat.reduceDiv, Nat.reduceEqDiff, Nat.reduceBEq, Nat.reduceLeDiff, ↓reduceIte, reduceCtorEq, Int.reduceAdd, Int.reduceSub, Int.reduceLT, Int.reduceLE, Int.reduceBEq, Int.reduceEq, Int.reduceToNat, ir18]
  refine GCall.of (there_ok hd (.inr hR1)) ?_
  rintro w h' ⟨rfl, rfl⟩
  have hmk : 0 ≤ (D.n : Int) * 128 ∧ D.n * 128 ≤ 281474976710656 ∧ (D.n : Int) * 128 ≤ 9223372036854775807 := by omega
  have htn : ((D.n : Int) * 128).toNat = D.n * 128 := by omega
  simp -implicitDefEqProofs (disch := (first | omega | (simp -implicitDefEqProofs only [szs, ne_eq] <;> omega) | fail)) only [go_sem, Nat.reduceAdd, Nat.reduceSub, Nat.reduceMul, Nat.reduceLT, Nat.reduceMod, Nat.reduceDiv, Nat.reduceEqDiff, Nat.reduceBEq, Nat.reduceLeDiff, ↓reduceIte, reduceCtorEq, Int.reduceAdd, Int.reduceSub, Int.reduceLT, Int.reduceLE, Int.reduceBEq, Int.reduceEq, Int.reduceToNat, h1, c0, hR1, hmk, htn]
  refine GLoop.inv hm (fun k f g => f.mks = [] ∧ f.tm.n = 34 ∧ f.tm.get 0 = some (.ptr (some (bd, 0))) ∧ f.tm.get 19 = some (.int .i64 D.n) ∧ ∃ j : Nat, j + k = D.n ∧ f.tm.get 20 = some (.int .i64 j) ∧ f.tm.get 3 = some (.slice (some (h'.n, 0)) (j * 128) (D.n * 128) true) ∧ g.n = h'.n + 1 ∧ (∃ cc, g.get h'.n = some (.cells cc 5) ∧ cc.size = D.n * 128 ∧ cc.ro = false ∧ cc.gets 0 (j * 128) = flatF D.fl j) ∧ ∀ b, b < h'.n → g.get b = h'.get b) D.n ?_ ?_
  · refine ⟨rfl, rfl, by simp -implicitDefEqProofs (disch := (first | omega | (simp -implicitDefEqProofs only [szs, ne_eq] <;> omega) | fail)) only [go_sem, Nat.reduceAdd, Nat.reduceSub, Nat.reduceMul, Nat.reduceLT, Nat.reduceMod, Nat.reduceDiv, Nat.reduceEqDiff, Nat.reduceBEq, Nat.reduceLeDiff, ↓reduceIte, reduceCtorEq, Int.reduceAdd, Int.reduceSub, Int.reduceLT, Int.reduceLE, Int.reduceBEq, Int.reduceEq, Int.reduceToNat], by simp -implicitDefEqProofs (disch := (first | omega | (simp -implicitDefEqProofs only [szs, ne_eq] <;> omega) | fail)) only [go_sem, Nat.reduceAdd, Nat.reduceSub, Nat.reduceMul, Nat.reduceLT, Nat.reduceMod, Nat.reduceDiv, Nat.reduceEqDiff, Nat.reduceBEq, Nat.reduceLeDiff, ↓reduceIte, reduceCtorEq, Int.reduceAdd, Int.reduceSub, Int.reduceLT, Int.reduceLE, Int.reduceBEq, Int.reduceEq, Int.reduceToNat], 0, by omega, by simp -implicitDefEqProofs (disch := (first | omega | (simp -implicitDefEqProofs only [szs, ne_eq] <;> omega) | fail)) only [go_sem, Nat.reduceAdd, Nat.reduceSub, Nat.reduceMul, Nat.reduceLT, Nat.reduceMod, Nat.reduceDiv, Nat.reduceEqDiff, Nat.reduceBEq, Nat.reduceLeDiff, ↓reduceIte, reduceCtorEq, Int.reduceAdd, Int.reduceSub, Int.reduceLT, Int.reduceLE, Int.reduceBEq, Int.reduceEq, Int.reduceToNat]; rfl, by simp -implicitDefEqProofs (disch := (first | omega | (simp -implicitDefEqProofs only [szs, ne_eq] <;> omega) | fail)) only [go_sem, Nat.reduceAdd, Nat.reduceSub, Nat.reduceMul, Nat.reduceLT, Nat.reduceMod, Nat.reduceDiv, Nat.reduceEqDiff, Nat.reduceBEq, Nat.reduceLeDiff, ↓reduceIte, reduceCtorEq, Int.reduceAdd, Int.reduceSub, Int.reduceLT, Int.reduceLE, Int.reduceBEq, Int.reduceEq, Int.reduceToNat], by simp, ⟨_, w_push_eq rfl _, rfl, rfl, rfl⟩, fun b hb => by simp -implicitDefEqProofs (disch := (first | omega | (simp -implicitDefEqProofs only [szs, ne_eq] <;> omega) | fail)) only [go_sem, Nat.reduceAdd, Nat.reduceSub, Nat.reduceMul, Nat.reduceLT, Nat.reduceMod, Nat.reduceDiv, Nat.reduceEqDiff, Nat.reduceBEq, Nat.reduceLeDiff, ↓reduceIte, reduceCtorEq, Int.reduceAdd, Int.reduceSub, Int.reduceLT, Int.reduceLE, Int.reduceBEq, Int.reduceEq, Int.reduceToNat]⟩
  · rintro k ⟨⟨n', tr⟩, mks⟩ g ⟨hmk, hn', t0, t19, j, hj, t20, t3, gn, ⟨cc, c1, c2, c3, c4⟩, hold⟩
    simp only [Tm.get_mk] at hmk hn' t0 t19 t20 t3
    subst hmk hn'
    by_cases hjm : j < D.n
    · have hg1 : g.get bd = some (.cells c 54) := by rw [hold _ hlt1]; exact h1
      have hg2 : g.get L.fb = some (.cells f 67) := by rw [hold _ hlt2]; exact f1
      have hs := (hfl j hjm)
      have hone := hs.one
      have hsl := hs.1
      simp -implicitDefEqProofs (disch := (first | omega | (simp -implicitDefEqProofs only [szs, ne_eq] <;> omega) | fail)) only [go_sem, Nat.reduceAdd, Nat.reduceSub, Nat.reduceMul, Nat.reduceLT, Nat.reduceMod, Nat.reduceDiv, Nat.reduceEqDiff, Nat.reduceBEq, Nat.reduceLeDiff, ↓reduceIte, reduceCtorEq, Int.reduceAdd, Int.reduceSub, Int.reduceLT, Int.reduceLE, Int.reduceBEq, Int.reduceEq, Int.reduceToNat, ir18_l0, t0, t19, t20, t3, hg1, c0, hR1, sl_67, appendV_of ap_33]
      rw [append_in (vs := D.fl j) hg2 (by omega) (by rw [Nat.mul_one]; exact fg j hjm) hone c1 (by omega) (by omega) c3]
      have hcs : ((cc.putA (0 + j * 128 * 1) (D.fl j)).size = D.n * 128) := by rw [Blk.size_putA]; exact c2
      simp -implicitDefEqProofs (disch := (first | omega | (simp -implicitDefEqProofs only [szs, ne_eq] <;> omega) | fail)) only [go_sem, Nat.reduceAdd, Nat.reduceSub, Nat.reduceMul, Nat.reduceLT, Nat.reduceMod, Nat.reduceDiv, Nat.reduceEqDiff, Nat.reduceBEq, Nat.reduceLeDiff, ↓reduceIte, reduceCtorEq, Int.reduceAdd, Int.reduceSub, Int.reduceLT, Int.reduceLE, Int.reduceBEq, Int.reduceEq, Int.reduceToNat, hR2, hcs, c3]
      refine ⟨k - 1, by omega, j + 1, by omega, by simp, by rw [show (j + 1) * 128 = j * 128 + 128 by omega], gn, ?_, fun b hb => by simp -implicitDefEqProofs (disch := (first | omega | (simp -implicitDefEqProofs only [szs, ne_eq] <;> omega) | fail)) only [go_sem, Nat.reduceAdd, Nat.reduceSub, Nat.reduceMul, Nat.reduceLT, Nat.reduceMod, Nat.reduceDiv, Nat.reduceEqDiff, Nat.reduceBEq, Nat.reduceLeDiff, ↓reduceIte, reduceCtorEq, Int.reduceAdd, Int.reduceSub, Int.reduceLT, Int.reduceLE, Int.reduceBEq, Int.reduceEq, Int.reduceToNat, hold]⟩
      refine ⟨_, rfl, by rw [Blk.size_putA]; exact c2, by rw [Blk.ro_putA]; exact c3, ?_⟩
      rw [show (j + 1) * 128 = j * 128 + 128 by omega, gets_split, flatF]
      have hh1 : (cc.putA (j * 128) (D.fl j)).gets 0 (j * 128) = flatF D.fl j := by
        rw [Blk.gets_putA_ne (by omega) (by omega)]; exact c4
      have hh2 : (cc.putA (j * 128) (D.fl j)).gets (j * 128) 128 = D.fl j := Blk.gets_putA_same (by omega) (by omega)
      rw [Nat.zero_add, hh1, hh2]
    · have : j = D.n := by omega
      subst this
      simp -implicitDefEqProofs (disch := (first | omega | (simp -implicitDefEqProofs only [szs, ne_eq] <;> omega) | fail)) only [go_sem, Nat.reduceAdd, Nat.reduceSub, Nat.reduceMul, Nat.reduceLT, Nat.reduceMod, Nat.reduceDiv, Nat.reduceEqDiff, Nat.reduceBEq, Nat.reduceLeDiff, ↓reduceIte, reduceCtorEq, Int.reduceAdd, Int.reduceSub, Int.reduceLT, Int.reduceLE, Int.reduceBEq, Int.reduceEq, Int.reduceToNat, ir18_l0, t0, t19, t20, t3]
      exact ⟨gn, ⟨cc, c1, c2, c3, c4⟩, hold⟩
/-- A slice of bytes. -/
def BytesV (h : Heap) (R : Set') (v : V) (l : List V) : Prop := l.length ≤ 9223372036854775807 ∧ (∀ x ∈ l, ∃ n : Int, x = .int .u8 n ∧ 0 ≤ n ∧ n ≤ 255) ∧ ((l = [] ∧ (v = .slice none 0 0 true ∨ ∃ a, v = .esl a)) ∨ ∃ b o cap ex c ce, v = .slice (some (b, o)) l.length cap ex ∧ R b ∧ h.get b = some (.cells c ce) ∧ o + l.length ≤ c.size ∧ c.gets o l.length = l)
theorem BytesV.old {h h' : Heap} {R : Set'} {v : V} {l : List V} (hv : BytesV h R v l) (hk : ∀ b, b < h.n → h'.get b = h.get b) : BytesV h' R v l := by
  refine ⟨hv.1, hv.2.1, hv.2.2.imp id ?_⟩
  rintro ⟨b, o, cap, ex, c, ce, e, hR, hb, hs⟩
  exact ⟨b, o, cap, ex, c, ce, e, hR, by rw [hk _ (Heap.lt_of_get hb)]; exact hb, hs⟩
theorem BytesV.lenV {h : Heap} {R : Set'} {v : V} {l : List V} (hv : BytesV h R v l) (g : Heap) : lenV Try.prog 33 v g = some (l.length, []) := by
  rcases hv.2.2 with ⟨rfl, rfl | ⟨a, rfl⟩⟩ | ⟨b, o, cap, ex, c, ce, rfl, _⟩ <;> simp [Vm.lenV, Try.underlying33]
theorem BytesV.one {h : Heap} {R : Set'} {v : V} {l : List V} (hv : BytesV h R v l) : v.one = true := by
  rcases hv.2.2 with ⟨_, rfl | ⟨a, rfl⟩⟩ | ⟨b, o, cap, ex, c, ce, rfl, _⟩ <;> rfl
theorem KeepV.one {h : Heap} {R : Set'} {v : V} {m : Nat} {ks kw : Nat → Int} (hv : KeepV h R v m ks kw) : v.one = true := by
  rcases hv.2 with ⟨_, rfl | ⟨a, rfl⟩⟩ | ⟨b, o, cap, ex, c, ce, rfl, _⟩ <;> rfl
/-- A slice of steps. -/
structure StepsV (h : Heap) (v : V) (m : Nat) : Prop where
  len : m ≤ 9223372036854775807
  at' : (m = 0 ∧ (v = .slice none 0 0 true ∨ ∃ a, v = .esl a)) ∨ ∃ b o cap c ce, v = .slice (some (b, o)) m cap true ∧ h.get b = some (.cells c ce) ∧ o + m * 5 ≤ c.size ∧ ∀ i, i < m → ∃ kd n1 n2 d l kv mk ks kw, c.get (o + i * 5) = .int .i64 kd ∧ c.get (o + i * 5 + 1) = .int .i64 n1 ∧ c.get (o + i * 5 + 2) = .int .i64 n2 ∧ c.get (o + i * 5 + 3) = d ∧ c.get (o + i * 5 + 4) = kv ∧ BytesV h (fun _ => True) d l ∧ KeepV h (fun _ => True) kv mk ks kw ∧
    (-9223372036854775808 ≤ n1 ∧ n1 ≤ 9223372036854775807) ∧ (-9223372036854775808 ≤ n2 ∧ n2 ≤ 9223372036854775807)
theorem StepsV.old {h h' : Heap} {v : V} {m : Nat} (hv : StepsV h v m) (hk : ∀ b, b < h.n → h'.get b = h.get b) : StepsV h' v m := by
  refine ⟨hv.len, hv.at'.imp id ?_⟩
  rintro ⟨b, o, cap, c, ce, e, hb, hs, hc⟩
  refine ⟨b, o, cap, c, ce, e, by rw [hk _ (Heap.lt_of_get hb)]; exact hb, hs, fun i hi => ?_⟩
  obtain ⟨kd, n1, n2, d, l, kv, mk, ks, kw, e0, e1, e2, e3, e4, e5, e6, e7, e8⟩ := hc i hi
  exact ⟨kd, n1, n2, d, l, kv, mk, ks, kw, e0, e1, e2, e3, e4, e5.old hk, e6.old hk, e7, e8⟩
theorem StepsV.lenV {h : Heap} {v : V} {m : Nat} (hv : StepsV h v m) (g : Heap) : lenV Try.prog 22 v g = some (m, []) := by
  rcases hv.at' with ⟨rfl, rfl | ⟨a, rfl⟩⟩ | ⟨b, o, cap, c, ce, rfl, _⟩ <;> simp [Vm.lenV, Try.underlying22]
theorem much_ok {h : Heap} {R W : Set'} {v : V} {m : Nat} (hv : StepsV h v m) (hR : ∀ b, R b) : SF Try.prog 9 [v] h R W fun r h' => (∃ b, r = .bool b) ∧ h' = h := by
  have hlen := hv.lenV
  refine SF.go hm Try.func9 ir9_eq ?_
  simp -implicitDefEqProofs (disch := (first | omega | (simp -implicitDefEqProofs only [szs, ne_eq] <;> omega) | fail)) only [go_sem, Nat.reduceAdd, Nat.reduceSub, Nat.reduceMul, Nat.reduceLT, Nat.reduceMod, Nat.reduceDiv, Nat.reduceEqDiff, Nat.reduceBEq, Nat.reduceLeDiff, ↓reduceIte, reduceCtorEq, Int.reduceAdd, Int.reduceSub, Int.reduceLT, Int.reduceLE, Int.reduceBEq, Int.reduceEq, Int.reduceToNat, ir9]
  refine GLoop.inv hm (fun k f g => g = h ∧ f.mks = [] ∧ f.tm.n = 34 ∧ f.tm.get 0 = some v ∧ ∃ j n : Nat, j + k = m ∧ n ≤ j * 18000 ∧ j ≤ 60 ∧ f.tm.get 4 = some (.int .i64 j) ∧ f.tm.get 3 = some (.int .i64 n)) m ?_ ?_
  · exact ⟨rfl, rfl, rfl, by simp -implicitDefEqProofs (disch := (first | omega | (simp -implicitDefEqProofs only [szs, ne_eq] <;> omega) | fail)) only [go_sem, Nat.reduceAdd, Nat.reduceSub, Nat.reduceMul, Nat.reduceLT, Nat.reduceMod, Nat.reduceDiv, Nat.reduceEqDiff, Nat.reduceBEq, Nat.reduceLeDiff, ↓reduceIte, reduceCtorEq, Int.reduceAdd, Int.reduceSub, Int.reduceLT, Int.reduceLE, Int.reduceBEq, Int.reduceEq, Int.reduceToNat], 0, 0, by omega, by omega, by omega, by simp -implicitDefEqProofs (disch := (first | omega | (simp -implicitDefEqProofs only [szs, ne_eq] <;> omega) | fail)) only [go_sem, Nat.reduceAdd, Nat.reduceSub, Nat.reduceMul, Nat.reduceLT, Nat.reduceMod, Nat.reduceDiv, Nat.reduceEqDiff, Nat.reduceBEq, Nat.reduceLeDiff, ↓reduceIte, reduceCtorEq, Int.reduceAdd, Int.reduceSub, Int.reduceLT, Int.reduceLE, Int.reduceBEq, Int.reduceEq, Int.reduceToNat]; rfl, by simp -implicitDefEqProofs (disch := (first | omega | (simp -implicitDefEqProofs only [szs, ne_eq] <;> omega) | fail)) only [go_sem, Nat.reduceAdd, Nat.reduceSub, Nat.reduceMul, Nat.reduceLT, Nat.reduceMod, Nat.reduceDiv, Nat.reduceEqDiff, Nat.reduceBEq, Nat.reduceLeDiff, ↓reduceIte, reduceCtorEq, Int.reduceAdd, Int.reduceSub, Int.reduceLT, Int.reduceLE, Int.reduceBEq, Int.reduceEq, Int.reduceToNat]; rfl⟩
  · rintro k ⟨⟨n', tr⟩, mks⟩ g ⟨rfl, hmk, hn', t0, j, n, hj, hn, hj6, t4, t3⟩
    simp only [Tm.get_mk] at hmk hn' t0 t4 t3
    subst hmk hn'
    by_cases hjm : j < m
    · by_cases hj60 : j < 60
      · rcases hv.at' with ⟨h0, _⟩ | ⟨b, o, cap, c, ce, rfl, hb, hsz, hc⟩
        · omega
        obtain ⟨kd, n1, n2, d, l, kv, mk, ks, kw, c0, c1, c2, c3, c4, hd, hk, _⟩ := hc j hjm
        have hl1 := hd.lenV
        have hl2 := hk.len
        have hRb := hR b
        simp -implicitDefEqProofs (disch := (first | omega | (simp -implicitDefEqProofs only [szs, ne_eq] <;> omega) | fail)) only [go_sem, Nat.reduceAdd, Nat.reduceSub, Nat.reduceMul, Nat.reduceLT, Nat.reduceMod, Nat.reduceDiv, Nat.reduceEqDiff, Nat.reduceBEq, Nat.reduceLeDiff, ↓reduceIte, reduceCtorEq, Int.reduceAdd, Int.reduceSub, Int.reduceLT, Int.reduceLE, Int.reduceBEq, Int.reduceEq, Int.reduceToNat, ir9_l0, t0, t4, t3, ↓hlen, hb, c3, c4, ↓hl1, ↓hl2, hRb, undefV]
        refine ⟨k - 1, by omega, j + 1, n + min l.length 9000 + min mk 9000, by omega, by omega, by omega, by simp, ?_⟩
        congr 1
        split <;> split <;> omega
      · simp -implicitDefEqProofs (disch := (first | omega | (simp -implicitDefEqProofs only [szs, ne_eq] <;> omega) | fail)) only [go_sem, Nat.reduceAdd, Nat.reduceSub, Nat.reduceMul, Nat.reduceLT, Nat.reduceMod, Nat.reduceDiv, Nat.reduceEqDiff, Nat.reduceBEq, Nat.reduceLeDiff, ↓reduceIte, reduceCtorEq, Int.reduceAdd, Int.reduceSub, Int.reduceLT, Int.reduceLE, Int.reduceBEq, Int.reduceEq, Int.reduceToNat, ir9_l0, t0, t4, t3, ↓hlen, undefV]
        exact ⟨_, rfl⟩
    · simp -implicitDefEqProofs (disch := (first | omega | (simp -implicitDefEqProofs only [szs, ne_eq] <;> omega) | fail)) only [go_sem, Nat.reduceAdd, Nat.reduceSub, Nat.reduceMul, Nat.reduceLT, Nat.reduceMod, Nat.reduceDiv, Nat.reduceEqDiff, Nat.reduceBEq, Nat.reduceLeDiff, ↓reduceIte, reduceCtorEq, Int.reduceAdd, Int.reduceSub, Int.reduceLT, Int.reduceLE, Int.reduceBEq, Int.reduceEq, Int.reduceToNat, ir9_l0, t0, t4, t3, ↓hlen, undefV]
      exact ⟨_, rfl⟩
end Go.Proofs.Ytgkcbpagdfdpdaa
