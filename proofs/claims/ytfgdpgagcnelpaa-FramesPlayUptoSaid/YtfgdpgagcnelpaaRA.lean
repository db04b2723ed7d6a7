/- Texts of bytes; bytes that are lent; Put of these. -/
import Derived.Test.YtfgdpgagcnelpaaR9
set_option linter.unusedVariables false
set_option linter.unusedSimpArgs false
set_option linter.unusedSimpArgs false
set_option maxRecDepth 100000
set_option linter.unusedVariables false
set_option linter.unusedSimpArgs false
namespace Go.Proofs.Ytfgdpgagcnelpaa
open Go Go.Vm
theorem cvS {M : MP} {R W : Set'} {tm : Tm} {h : Heap} {K : V → Heap → Prop} (x : Operand) : LOp M R W tm h (.convert 35 9 x) K = onO (evV tm x) fun a => onO (convV M.P 35 9 a h) fun r => allB R r.2 ∧ K r.1 h := by
  apply LOp_convert; decide
theorem cvSD {P : Program} {tm : Tm} {h : Heap} {K : V → Heap → Set' → Set' → Prop} (x : Operand) : LOpD P tm h (.convert 35 9 x) K = onO (evV tm x) fun a => onO (convV P 35 9 a h) fun r => K r.1 h (fun x => x ∈ r.2) (fun x => x ∈ ([] : List Nat)) := by
  apply LOpD_convert; decide
def strG (g : Nat → Int) (m : Nat) : ByteArray := ⟨⟨(List.range m).map fun i => UInt8.ofNat (g i).toNat⟩⟩
theorem strL_g (g : Nat → Int) : ∀ (l : List V) (o : Nat), (∀ i, i < l.length → l.getD i undefV = .int .u8 (g (o + i))) → strL l = some ((List.range l.length).map fun i => UInt8.ofNat (g (o + i)).toNat)
  | [], _, _ => rfl
  | v :: r, o, h => by
    have h0 := h 0 (by simp)
    simp at h0
    subst h0
    have hr := strL_g g r (o + 1) fun i hi => by
      have := h (i + 1) (by simpa using hi)
      rw [show o + 1 + i = o + (i + 1) by omega]
      simpa using this
    rw [strL, hr, List.length_cons, List.range_succ_eq_map]
    simp only [List.map_cons, List.map_map, Nat.add_zero]
    congr 3
    funext i
    show UInt8.ofNat (g (o + 1 + i)).toNat = UInt8.ofNat (g (o + (i + 1))).toNat
    rw [show o + 1 + i = o + (i + 1) by omega]
theorem conv_g {h : Heap} {b o m cap : Nat} {ex : Bool} {c : Blk} {ce : TypeId} {g : Nat → Int} (hb : h.get b = some (.cells c ce)) (hs : o + m ≤ c.size) (hg : ∀ i, i < m → c.get (o + i) = .int .u8 (g i)) :
    convV Try.prog 35 9 (.slice (some (b, o)) m cap ex) h = some (.str (strG g m), [b]) := by
  have hl : strL (c.gets o m) = some ((List.range m).map fun i => UInt8.ofNat (g i).toNat) := by
    have := strL_g g (c.gets o m) 0 fun i hi => by
      rw [Blk.length_gets] at hi
      rw [List.getD_eq_getElem?_getD, Blk.gets_get _ _ _ _ hi, Option.getD_some, Nat.zero_add]; exact hg i hi
    rw [Blk.length_gets] at this
    rw [this]
    congr 2
    funext i
    rw [Nat.zero_add]
  simp only [convV, Try.underlying35, Try.underlying9, Try.underlying5, hb, w_ble_t hs, hl]
  rfl
theorem conv_0 (h : Heap) (g : Nat → Int) : convV Try.prog 35 9 (.slice none 0 0 true) h = some (.str (strG g 0), []) ∧ ∀ a, convV Try.prog 35 9 (.esl a) h = some (.str (strG g 0), []) := by
  refine ⟨?_, fun a => ?_⟩ <;> simp only [convV, Try.underlying35, Try.underlying9, Try.underlying5] <;> rfl
theorem sb_eq (a : ByteArray) : strBin .eql a a = some (.bool true) := by
  show some (V.bool (eqB a.data.toList a.data.toList)) = _
  rw [eqB_eq]; simp
/-- Bytes that were lent: behind them a mark. -/
structure LentV (h : Heap) (v : V) (nb m : Nat) (g : Nat → Int) : Prop where
  e : v = .slice (some (nb, 0)) m (m + 1) false
  b : ∃ c, h.get nb = some (.cells c 5) ∧ c.size = m + 1 ∧ c.ro = false ∧ (∀ i, i < m → c.get i = .int .u8 (g i)) ∧ c.get m = .int .u8 165
theorem LentV.old {h h' : Heap} {v : V} {nb m : Nat} {g : Nat → Int} (hv : LentV h v nb m g) (hk : h'.get nb = h.get nb) : LentV h' v nb m g := ⟨hv.e, by rw [hk]; exact hv.b⟩
theorem slice_lo (b off len cap hi : Nat) (h1 : hi ≤ cap) (h2 : len ≤ cap) (h0 : 0 < cap) : sliceV Try.prog 35 (.slice (some (b, off)) len cap false) none (some (hi : Int)) none = some (.slice (some (b, off)) hi cap false) := by
  have hbv : boundsV len cap none (some (hi : Int)) none = some (0, hi, cap) := by
    simp only [boundsV, Int.toNat_natCast]
    rw [if_pos (by omega)]
  simp [sliceV, Try.underlying35, sz_5, hbv, h2]
set_option maxHeartbeats 1000000 in
theorem lent_ok {h : Heap} {R W : Set'} {v : V} {m : Nat} {g : Nat → Int} {Rv : Set'} (hv : BytesV h Rv v m g) (hm8 : m ≤ 1048576) (hR : ∀ b, R b) :
    SF Try.prog 49 [v] h R W fun r h' => ∃ nb, h.n ≤ nb ∧ LentV h' r nb m g ∧ h.n ≤ h'.n ∧ ∀ b, b < h.n → h'.get b = h.get b := by
  have hlv := hv.lenV
  refine SF.go hm Try.func49 ir49_eq ?_
  have z : ∀ (x : V) (k : Heap), x = .slice none 0 0 true ∨ (∃ a, x = .esl a) → appE 5 1 1 (.slice none 0 0 true) x k = some ⟨.slice none 0 0 true, k, [], []⟩ := fun x k hx => by
    rcases hx with rfl | ⟨a, rfl⟩ <;> rfl
  rcases hv.at' with ⟨rfl, h0⟩ | ⟨b, o, cap, c, ce, rfl, hRv, hb, hs, hc⟩
  · have hA := z v h h0
    have hB := append_first (e := 5) (bytes := 1) (h := h.push (.cells (Blk.of [.int .u8 165]) 5)) (xb := h.n) (cx := Blk.of [.int .u8 165]) (te := 5) (v := .int .u8 165) (w_push_eq rfl _) (Nat.le_refl _) rfl (by omega)
    have hS := slice_lo (h.n + 1) 0 1 1 0 (by omega) (by omega) (by omega)
    simp -implicitDefEqProofs (disch := (first | omega | (simp -implicitDefEqProofs only [szs, ne_eq] <;> omega) | fail)) only [go_sem, Nat.reduceAdd, Nat.reduceSub, Nat.reduceMul, Nat.reduceLT, Nat.reduceMod, Nat.reduceDiv, Nat.reduceEqDiff, Nat.reduceBEq, Nat.reduceLeDiff, ↓reduceIte, reduceCtorEq, Int.reduceAdd, Int.reduceSub, Int.reduceLT, Int.reduceLE, Int.reduceBEq, Int.reduceEq, Int.reduceToNat, ir49, appendV_of ap_35, ↓hA, ↓hB, ↓hlv, ↓hS]
    exact ⟨h.n + 1, by omega, ⟨rfl, _, w_push_eq (by simp) _, rfl, rfl, fun i hi => by omega, rfl⟩, by omega, fun b hb => by rw [w_push_ne (by simp; omega), w_push_ne (by omega)]⟩
  · have hb0 := Heap.lt_of_get hb
    have hRb := hR b
    by_cases h0 : m = 0
    · subst h0
      have hA : appE 5 1 1 (.slice none 0 0 true) (.slice (some (b, o)) 0 cap true) h = some ⟨.slice none 0 0 true, h, [b], []⟩ := by
        unfold appE
        simp only [lenOfV, firstV, hb, Nat.zero_mul, Nat.add_zero, w_ble_t (show o ≤ c.size by omega), w_gets_zero]
        rfl
      have hB := append_first (e := 5) (bytes := 1) (h := h.push (.cells (Blk.of [.int .u8 165]) 5)) (xb := h.n) (cx := Blk.of [.int .u8 165]) (te := 5) (v := .int .u8 165) (w_push_eq rfl _) (Nat.le_refl _) rfl (by omega)
      have hS := slice_lo (h.n + 1) 0 1 1 0 (by omega) (by omega) (by omega)
      simp -implicitDefEqProofs (disch := (first | omega | (simp -implicitDefEqProofs only [szs, ne_eq] <;> omega) | fail)) only [go_sem, Nat.reduceAdd, Nat.reduceSub, Nat.reduceMul, Nat.reduceLT, Nat.reduceMod, Nat.reduceDiv, Nat.reduceEqDiff, Nat.reduceBEq, Nat.reduceLeDiff, ↓reduceIte, reduceCtorEq, Int.reduceAdd, Int.reduceSub, Int.reduceLT, Int.reduceLE, Int.reduceBEq, Int.reduceEq, Int.reduceToNat, ir49, appendV_of ap_35, ↓hA, ↓hB, ↓hlv, ↓hS, hRb]
      exact ⟨h.n + 1, by omega, ⟨rfl, _, w_push_eq (by simp) _, rfl, rfl, fun i hi => by omega, rfl⟩, by omega, fun b hb => by rw [w_push_ne (by simp; omega), w_push_ne (by omega)]⟩
    · have hA := append_nilS (e := 5) (sz := 1) (bytes := 1) (cap := cap) (ex := true) (h := h) (o := o) (m := m) hb (by omega) (by omega) (by omega) (by omega)
      obtain ⟨l, el⟩ : ∃ l, l = c.gets o (m * 1) := ⟨_, rfl⟩
      have ll : l.length = m := by rw [el, Blk.length_gets]; omega
      have gl : ∀ i, i < m → l.getD i undefV = .int .u8 (g i) := fun i hi => by
        rw [el, List.getD_eq_getElem?_getD, Blk.gets_get _ _ _ _ (by omega), Option.getD_some]; exact hc i hi
      rw [← el] at hA
      have hB := append_next (e := 5) (bytes := 1) (n := m) (h := (h.push (.cells (Blk.of l) 5)).push (.cells (Blk.of [.int .u8 165]) 5)) (xb := h.n + 1) (bj := h.n) (cx := Blk.of [.int .u8 165]) (te := 5) (v := .int .u8 165) (l := l) (w_push_eq (by simp) _) (Nat.le_refl _) rfl rfl ll.symm (by rw [w_push_ne (by simp)]; exact w_push_eq rfl _) (by omega) (by omega)
      have hS := slice_lo (h.n + 2) 0 (m + 1) (m + 1) m (by omega) (by omega) (by omega)
      simp -implicitDefEqProofs (disch := (first | omega | (simp -implicitDefEqProofs only [szs, ne_eq] <;> omega) | fail)) only [go_sem, Nat.reduceAdd, Nat.reduceSub, Nat.reduceMul, Nat.reduceLT, Nat.reduceMod, Nat.reduceDiv, Nat.reduceEqDiff, Nat.reduceBEq, Nat.reduceLeDiff, ↓reduceIte, reduceCtorEq, Int.reduceAdd, Int.reduceSub, Int.reduceLT, Int.reduceLE, Int.reduceBEq, Int.reduceEq, Int.reduceToNat, ir49, appendV_of ap_35, ↓hA, ↓hB, ↓hlv, ↓hS, hRb]
      refine ⟨h.n + 2, by omega, ⟨rfl, Blk.of (l ++ [.int .u8 165]), w_push_eq (by simp) _, by rw [w_of_size]; simp [ll], rfl, fun i hi => ?_, ?_⟩, by omega, fun b hb => by rw [w_push_ne (by simp; omega), w_set_ne (by simp; omega) (by omega), w_push_ne (by simp; omega), w_push_ne (by omega)]⟩
      · rw [Blk.get_of _ _ (by simp; omega), ← gl i hi, List.getD_eq_getElem?_getD, List.getD_eq_getElem?_getD, List.getElem?_append_left (by omega)]
      · rw [Blk.get_of _ _ (by simp; omega), List.getD_eq_getElem?_getD, List.getElem?_append_right (by omega)]
        simp [ll]
/-- What was lent stands; then it is written over. -/
theorem left_ok {h : Heap} {R W : Set'} {v x : V} {nb m : Nat} {g : Nat → Int} {Rv : Set'} (hv : BytesV h Rv v m g) (hm8 : m ≤ 1048576) (hx : LentV h x nb m g) (hR : ∀ b, R b) (hW : W nb) :
    SF Try.prog 52 [x, v] h R W fun r h' => r = .bool true ∧ h.n ≤ h'.n ∧ ∀ b, b ≠ nb → h'.get b = h.get b := by
  have hlv := hv.lenV
  obtain ⟨rfl, c, hb, hs, hro, hc, hc165⟩ := hx
  have hbl := Heap.lt_of_get hb
  have hRb := hR nb
  have hc1 := conv_g (cap := m + 1) (ex := false) (g := g) hb (o := 0) (m := m) (by omega) (fun i hi => by rw [Nat.zero_add]; exact hc i hi)
  have hS := slice_lo nb 0 m (m + 1) (m + 1) (by omega) (by omega) (by omega)
  have hS' : ((m + 1 : Nat) : Int) = (m : Int) + 1 := by omega
  rw [hS'] at hS
  obtain ⟨rs, hc2, hrs⟩ : ∃ rs, convV Try.prog 35 9 v h = some (.str (strG g m), rs) ∧ allB R rs := by
    rcases hv.at' with ⟨rfl, rfl | ⟨a, rfl⟩⟩ | ⟨b, o, cap, c, ce, rfl, hRv, hb, hs, hc⟩
    · exact ⟨[], (conv_0 h g).1, allB_of fun b hb => by cases hb⟩
    · exact ⟨[], (conv_0 h g).2 a, allB_of fun b hb => by cases hb⟩
    · exact ⟨[b], conv_g hb hs hc, allB_of fun b _ => hR b⟩
  have hrs' : allB (fun b => h.n ≤ b ∨ R b) rs := allB_of fun b _ => .inr (hR b)
  have hsb := sb_eq (strG g m)
  have h0 : (0 : Int) ≤ (m : Int) := by omega
  have h1 : (m : Int) < ((m + 1 : Nat) : Int) := by omega
  have hms : m < c.size := by omega
  refine SF.go hm Try.func52 ir52_eq ?_
  simp -implicitDefEqProofs (disch := (first | omega | (simp -implicitDefEqProofs only [szs, ne_eq] <;> omega) | fail)) only [go_sem, Nat.reduceAdd, Nat.reduceSub, Nat.reduceMul, Nat.reduceLT, Nat.reduceMod, Nat.reduceDiv, Nat.reduceEqDiff, Nat.reduceBEq, Nat.reduceLeDiff, ↓reduceIte, reduceCtorEq, Int.reduceAdd, Int.reduceSub, Int.reduceLT, Int.reduceLE, Int.reduceBEq, Int.reduceEq, Int.reduceToNat, ir52, ↓cvS, ↓hc1, ↓hc2, ↓hsb, ↓hlv, ↓hS, hRb, hrs', undefV, hb, hc165, h0, h1, hms]
  refine GLoop.inv hm (fun k f gg => f.mks = [] ∧ f.tm.n = 35 ∧ f.tm.get 0 = some (.slice (some (nb, 0)) m (m + 1) false) ∧ f.tm.get 6 = some (.bool true) ∧ gg.n = h.n ∧ (∀ b, b ≠ nb → gg.get b = h.get b) ∧ (∃ c, gg.get nb = some (.cells c 5) ∧ c.size = m + 1 ∧ c.ro = false) ∧ ∃ p : Nat, p + k = m ∧ f.tm.get 7 = some (.int .i64 p)) m ?_ ?_
  · exact ⟨rfl, rfl, by simp -implicitDefEqProofs (disch := (first | omega | (simp -implicitDefEqProofs only [szs, ne_eq] <;> omega) | fail)) only [go_sem, Nat.reduceAdd, Nat.reduceSub, Nat.reduceMul, Nat.reduceLT, Nat.reduceMod, Nat.reduceDiv, Nat.reduceEqDiff, Nat.reduceBEq, Nat.reduceLeDiff, ↓reduceIte, reduceCtorEq, Int.reduceAdd, Int.reduceSub, Int.reduceLT, Int.reduceLE, Int.reduceBEq, Int.reduceEq, Int.reduceToNat], by simp -implicitDefEqProofs (disch := (first | omega | (simp -implicitDefEqProofs only [szs, ne_eq] <;> omega) | fail)) only [go_sem, Nat.reduceAdd, Nat.reduceSub, Nat.reduceMul, Nat.reduceLT, Nat.reduceMod, Nat.reduceDiv, Nat.reduceEqDiff, Nat.reduceBEq, Nat.reduceLeDiff, ↓reduceIte, reduceCtorEq, Int.reduceAdd, Int.reduceSub, Int.reduceLT, Int.reduceLE, Int.reduceBEq, Int.reduceEq, Int.reduceToNat], rfl, fun _ _ => rfl, ⟨c, hb, hs, hro⟩, 0, by omega, by simp -implicitDefEqProofs (disch := (first | omega | (simp -implicitDefEqProofs only [szs, ne_eq] <;> omega) | fail)) only [go_sem, Nat.reduceAdd, Nat.reduceSub, Nat.reduceMul, Nat.reduceLT, Nat.reduceMod, Nat.reduceDiv, Nat.reduceEqDiff, Nat.reduceBEq, Nat.reduceLeDiff, ↓reduceIte, reduceCtorEq, Int.reduceAdd, Int.reduceSub, Int.reduceLT, Int.reduceLE, Int.reduceBEq, Int.reduceEq, Int.reduceToNat]; rfl⟩
  clear hb hs hro hc hc165 hc1 hms
  clear c
  rintro k ⟨⟨n', tr⟩, mks⟩ gg ⟨hmk, hn', t0, t6, gn, hold, ⟨c, hb, hs, hro⟩, p, hpk, t7⟩
  simp only [Tm.get_mk] at hmk hn' t0 t6 t7
  subst hmk hn'
  by_cases hp : p < m
  · have hp0 : (0 : Int) ≤ (p : Int) := by omega
    have hp1 : (p : Int) < (m : Nat) := by omega
    have hps : p < c.size := by omega
    have hbl' := Heap.lt_of_get hb
    simp -implicitDefEqProofs (disch := (first | omega | (simp -implicitDefEqProofs only [szs, ne_eq] <;> omega) | fail)) only [go_sem, Nat.reduceAdd, Nat.reduceSub, Nat.reduceMul, Nat.reduceLT, Nat.reduceMod, Nat.reduceDiv, Nat.reduceEqDiff, Nat.reduceBEq, Nat.reduceLeDiff, ↓reduceIte, reduceCtorEq, Int.reduceAdd, Int.reduceSub, Int.reduceLT, Int.reduceLE, Int.reduceBEq, Int.reduceEq, Int.reduceToNat, ir52_l0, t0, t6, t7, hb, hro, hp0, hp1, hps, hW]
    exact ⟨k - 1, by omega, gn, fun b hne => by rw [w_set_ne hbl' hne]; exact hold b hne, ⟨_, rfl, by rw [Blk.size_set]; exact hs, by rw [Blk.ro_set]; exact hro⟩, p + 1, by omega, by simp⟩
  · obtain rfl : p = m := by omega
    simp -implicitDefEqProofs (disch := (first | omega | (simp -implicitDefEqProofs only [szs, ne_eq] <;> omega) | fail)) only [go_sem, Nat.reduceAdd, Nat.reduceSub, Nat.reduceMul, Nat.reduceLT, Nat.reduceMod, Nat.reduceDiv, Nat.reduceEqDiff, Nat.reduceBEq, Nat.reduceLeDiff, ↓reduceIte, reduceCtorEq, Int.reduceAdd, Int.reduceSub, Int.reduceLT, Int.reduceLE, Int.reduceBEq, Int.reduceEq, Int.reduceToNat, ir52_l0, t0, t6, t7]
    exact ⟨by omega, hold⟩
theorem LentV.lenV {h : Heap} {x : V} {nb m : Nat} {g : Nat → Int} (hx : LentV h x nb m g) (k : Heap) : lenV Try.prog 35 x k = some (m, []) := by
  obtain ⟨rfl, _⟩ := hx
  simp [Vm.lenV, Try.underlying35]
theorem copyLent {h : Heap} {R : Set'} {v : V} {nb m : Nat} {g : Nat → Int} (hv : LentV h v nb m g) (hR : R nb) {b off dLen cap : Nat} {c : Blk} {ce : TypeId} (hb : h.get b = some (.cells c ce)) (hro : c.ro = false) (hm8 : m ≤ dLen) (hs : off + m ≤ c.size) :
    ∃ vs rs, vs.length = m ∧ (∀ j, j < m → vs.getD j undefV = .int .u8 (g j)) ∧ (∀ x ∈ rs, R x) ∧ copyV Try.prog 35 (.slice (some (b, off)) dLen cap true) v h = some ⟨.int .i64 m, h.set b (.cells (c.putA off vs) ce), rs, [b]⟩ := by
  have hmin : Nat.min m dLen = m := Nat.min_eq_left hm8
  obtain ⟨rfl, sc, hsb, hsz, _, hc, _⟩ := hv
  have hg : ∀ j, j < m → (sc.gets 0 m).getD j undefV = .int .u8 (g j) := fun j hj => by
    rw [List.getD_eq_getElem?_getD, Blk.gets_get _ _ _ _ hj, Option.getD_some, Nat.zero_add]; exact hc j hj
  refine ⟨sc.gets 0 m, [nb], Blk.length_gets .., hg, by simpa using hR, ?_⟩
  have h1 : Nat.ble (0 + m) sc.size = true := Nat.ble_eq_true_of_le (by omega)
  have h2 : Nat.ble (off + (sc.gets 0 m).length) c.size = true := by rw [Blk.length_gets]; exact Nat.ble_eq_true_of_le hs
  have h3 := one_int (sc.gets 0 m) fun j hj => ⟨_, _, hg j (by rw [Blk.length_gets] at hj; exact hj)⟩
  simp only [copyV, Try.underlying35, sz_5, lenOfV, firstV, hb, hsb, hmin, h1, h2, h3, hro, Nat.mul_one]
theorem putL_bad {h : Heap} {R W : Set'} {bp : Nat} {L : PL} {S : PS} (hp : PoolAt h bp L S) (hR : ∀ b, R b) {v : V} {nb m : Nat} {g : Nat → Int} (hv : LentV h v nb m g) (hm8 : m ≤ 1048576) (k at' : Int) (hk : ¬ (0 ≤ at' ∧ at' < 256 ∧ m ≤ 256 - at')) :
    SF Try.prog 17 [.ptr (some (bp, 0)), .int .i64 k, .int .i64 at', v] h R W fun v h' => v = .int .i64 2 ∧ h' = h := by
  have hlen := hv.lenV
  refine SF.go hm Try.func17 ir17_eq ?_
  simp -implicitDefEqProofs (disch := (first | omega | (simp -implicitDefEqProofs only [szs, ne_eq] <;> omega) | fail)) only [go_sem, Nat.reduceAdd, Nat.reduceSub, Nat.reduceMul, Nat.reduceLT, Nat.reduceMod, Nat.reduceDiv, Nat.reduceEqDiff, Nat.reduceBEq, Nat.reduceLeDiff, ↓reduceIte, reduceCtorEq, Int.reduceAdd, Int.reduceSub, Int.reduceLT, Int.reduceLE, Int.reduceBEq, Int.reduceEq, Int.reduceToNat, ir17]
  refine GCall.of (there_ok hp (.inr (hR _))) ?_
  rintro w h' ⟨rfl, rfl⟩
  simp -implicitDefEqProofs (disch := (first | omega | (simp -implicitDefEqProofs only [szs, ne_eq] <;> omega) | fail)) only [go_sem, Nat.reduceAdd, Nat.reduceSub, Nat.reduceMul, Nat.reduceLT, Nat.reduceMod, Nat.reduceDiv, Nat.reduceEqDiff, Nat.reduceBEq, Nat.reduceLeDiff, ↓reduceIte, reduceCtorEq, Int.reduceAdd, Int.reduceSub, Int.reduceLT, Int.reduceLE, Int.reduceBEq, Int.reduceEq, Int.reduceToNat]
  refine GCall.of (place_ok at') ?_
  rintro w h' ⟨rfl, rfl⟩
  by_cases hk2 : 0 ≤ at' ∧ at' < 256
  · rw [decide_eq_true hk2]
    obtain ⟨j, rfl⟩ := Int.eq_ofNat_of_zero_le hk2.1
    have hk3 : ¬ ((m : Int) ≤ 256 - j) := fun e => hk ⟨hk2.1, hk2.2, e⟩
    simp -implicitDefEqProofs (disch := (first | omega | (simp -implicitDefEqProofs only [szs, ne_eq] <;> omega) | fail)) only [go_sem, Nat.reduceAdd, Nat.reduceSub, Nat.reduceMul, Nat.reduceLT, Nat.reduceMod, Nat.reduceDiv, Nat.reduceEqDiff, Nat.reduceBEq, Nat.reduceLeDiff, ↓reduceIte, reduceCtorEq, Int.reduceAdd, Int.reduceSub, Int.reduceLT, Int.reduceLE, Int.reduceBEq, Int.reduceEq, Int.reduceToNat, ↓hlen]
  · rw [decide_eq_false hk2]
    simp -implicitDefEqProofs (disch := (first | omega | (simp -implicitDefEqProofs only [szs, ne_eq] <;> omega) | fail)) only [go_sem, Nat.reduceAdd, Nat.reduceSub, Nat.reduceMul, Nat.reduceLT, Nat.reduceMod, Nat.reduceDiv, Nat.reduceEqDiff, Nat.reduceBEq, Nat.reduceLeDiff, ↓reduceIte, reduceCtorEq, Int.reduceAdd, Int.reduceSub, Int.reduceLT, Int.reduceLE, Int.reduceBEq, Int.reduceEq, Int.reduceToNat]
theorem putL_none {h : Heap} {R W : Set'} {bp : Nat} {L : PL} {S : PS} (hp : PoolAt h bp L S) (hR : ∀ b, R b) {v : V} {nb m : Nat} {g : Nat → Int} (hv : LentV h v nb m g) (hm8 : m ≤ 1048576) (k at' : Int) (hk : 0 ≤ at' ∧ at' < 256 ∧ m ≤ 256 - at') (ho : ¬ Owned S k) :
    SF Try.prog 17 [.ptr (some (bp, 0)), .int .i64 k, .int .i64 at', v] h R W fun v h' => v = .int .i64 6 ∧ h' = h := by
  have hlen := hv.lenV
  refine SF.go hm Try.func17 ir17_eq ?_
  simp -implicitDefEqProofs (disch := (first | omega | (simp -implicitDefEqProofs only [szs, ne_eq] <;> omega) | fail)) only [go_sem, Nat.reduceAdd, Nat.reduceSub, Nat.reduceMul, Nat.reduceLT, Nat.reduceMod, Nat.reduceDiv, Nat.reduceEqDiff, Nat.reduceBEq, Nat.reduceLeDiff, ↓reduceIte, reduceCtorEq, Int.reduceAdd, Int.reduceSub, Int.reduceLT, Int.reduceLE, Int.reduceBEq, Int.reduceEq, Int.reduceToNat, ir17]
  refine GCall.of (there_ok hp (.inr (hR _))) ?_
  rintro w h' ⟨rfl, rfl⟩
  simp -implicitDefEqProofs (disch := (first | omega | (simp -implicitDefEqProofs only [szs, ne_eq] <;> omega) | fail)) only [go_sem, Nat.reduceAdd, Nat.reduceSub, Nat.reduceMul, Nat.reduceLT, Nat.reduceMod, Nat.reduceDiv, Nat.reduceEqDiff, Nat.reduceBEq, Nat.reduceLeDiff, ↓reduceIte, reduceCtorEq, Int.reduceAdd, Int.reduceSub, Int.reduceLT, Int.reduceLE, Int.reduceBEq, Int.reduceEq, Int.reduceToNat]
  refine GCall.of (place_ok at') ?_
  rintro w h' ⟨rfl, rfl⟩
  have e : decide (0 ≤ at' ∧ at' < 256) = true := by simp; omega
  rw [e]
  obtain ⟨j, rfl⟩ := Int.eq_ofNat_of_zero_le hk.1
  obtain ⟨_, hk2, hk3⟩ := hk
  simp -implicitDefEqProofs (disch := (first | omega | (simp -implicitDefEqProofs only [szs, ne_eq] <;> omega) | fail)) only [go_sem, Nat.reduceAdd, Nat.reduceSub, Nat.reduceMul, Nat.reduceLT, Nat.reduceMod, Nat.reduceDiv, Nat.reduceEqDiff, Nat.reduceBEq, Nat.reduceLeDiff, ↓reduceIte, reduceCtorEq, Int.reduceAdd, Int.reduceSub, Int.reduceLT, Int.reduceLE, Int.reduceBEq, Int.reduceEq, Int.reduceToNat, ↓hlen]
  refine GCall.of (at_no hp (.inr (hR _)) (.inr (hR _)) k ho) ?_
  rintro w h' ⟨rfl, rfl⟩
  simp -implicitDefEqProofs (disch := (first | omega | (simp -implicitDefEqProofs only [szs, ne_eq] <;> omega) | fail)) only [go_sem, Nat.reduceAdd, Nat.reduceSub, Nat.reduceMul, Nat.reduceLT, Nat.reduceMod, Nat.reduceDiv, Nat.reduceEqDiff, Nat.reduceBEq, Nat.reduceLeDiff, ↓reduceIte, reduceCtorEq, Int.reduceAdd, Int.reduceSub, Int.reduceLT, Int.reduceLE, Int.reduceBEq, Int.reduceEq, Int.reduceToNat]
theorem putL_at {h : Heap} {R W : Set'} {bp : Nat} {L : PL} {S : PS} (hp : PoolAt h bp L S) (hR : ∀ b, R b) (hWf : W L.fb) {v : V} {nb m : Nat} {g : Nat → Int} (hv : LentV h v nb m g) {i j : Nat} (hi : i < S.n) (h0 : S.ho i ≠ 0) (hj : j < 256) (hjm : j + m ≤ 256) :
    SF Try.prog 17 [.ptr (some (bp, 0)), .int .i64 i, .int .i64 j, v] h R W fun v h' => v = .int .i64 0 ∧ PoolAt h' bp L (S.put i j m g) := by
  have hlen := hv.lenV
  obtain ⟨f, hf, if'⟩ := hp.f
  have fs := if'.size
  have hro := if'.ro
  have hRf := hR L.fb
  refine SF.go hm Try.func17 ir17_eq ?_
  simp -implicitDefEqProofs (disch := (first | omega | (simp -implicitDefEqProofs only [szs, ne_eq] <;> omega) | fail)) only [go_sem, Nat.reduceAdd, Nat.reduceSub, Nat.reduceMul, Nat.reduceLT, Nat.reduceMod, Nat.reduceDiv, Nat.reduceEqDiff, Nat.reduceBEq, Nat.reduceLeDiff, ↓reduceIte, reduceCtorEq, Int.reduceAdd, Int.reduceSub, Int.reduceLT, Int.reduceLE, Int.reduceBEq, Int.reduceEq, Int.reduceToNat, ir17]
  refine GCall.of (there_ok hp (.inr (hR _))) ?_
  rintro w h' ⟨rfl, rfl⟩
  simp -implicitDefEqProofs (disch := (first | omega | (simp -implicitDefEqProofs only [szs, ne_eq] <;> omega) | fail)) only [go_sem, Nat.reduceAdd, Nat.reduceSub, Nat.reduceMul, Nat.reduceLT, Nat.reduceMod, Nat.reduceDiv, Nat.reduceEqDiff, Nat.reduceBEq, Nat.reduceLeDiff, ↓reduceIte, reduceCtorEq, Int.reduceAdd, Int.reduceSub, Int.reduceLT, Int.reduceLE, Int.reduceBEq, Int.reduceEq, Int.reduceToNat]
  refine GCall.of (place_ok j) ?_
  rintro w h' ⟨rfl, rfl⟩
  have e : decide (0 ≤ (j : Int) ∧ (j : Int) < 256) = true := by simp; omega
  rw [e]
  simp -implicitDefEqProofs (disch := (first | omega | (simp -implicitDefEqProofs only [szs, ne_eq] <;> omega) | fail)) only [go_sem, Nat.reduceAdd, Nat.reduceSub, Nat.reduceMul, Nat.reduceLT, Nat.reduceMod, Nat.reduceDiv, Nat.reduceEqDiff, Nat.reduceBEq, Nat.reduceLeDiff, ↓reduceIte, reduceCtorEq, Int.reduceAdd, Int.reduceSub, Int.reduceLT, Int.reduceLE, Int.reduceBEq, Int.reduceEq, Int.reduceToNat, ↓hlen]
  refine GCall.of (at_yes hp (.inr (hR _)) (.inr (hR _)) i hi h0) ?_
  rintro w h' ⟨rfl, rfl⟩
  have h65 := slice65 L.fb (i * 258 + 2) j hj
  obtain ⟨vs, rs, hvl, hvg, hrs, hcp⟩ := copyLent hv (R := R) (hR nb) hf hro (dLen := 256 - j) (cap := 256 - j) (off := i * 258 + 2 + j) (by omega) (by omega)
  simp -implicitDefEqProofs (disch := (first | omega | (simp -implicitDefEqProofs only [szs, ne_eq] <;> omega) | fail)) only [go_sem, Nat.reduceAdd, Nat.reduceSub, Nat.reduceMul, Nat.reduceLT, Nat.reduceMod, Nat.reduceDiv, Nat.reduceEqDiff, Nat.reduceBEq, Nat.reduceLeDiff, ↓reduceIte, reduceCtorEq, Int.reduceAdd, Int.reduceSub, Int.reduceLT, Int.reduceLE, Int.reduceBEq, Int.reduceEq, Int.reduceToNat, hf, hRf]
  rw [h65]
  simp only [hcp]
  exact ⟨allB_iff.2 fun x hx => .inr (hrs x hx), ⟨.inr hWf, trivial⟩, hp.put1 hf hi hjm hvl hvg⟩
end Go.Proofs.Ytfgdpgagcnelpaa
