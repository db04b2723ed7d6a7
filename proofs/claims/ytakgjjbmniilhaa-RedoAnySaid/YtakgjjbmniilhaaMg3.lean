/- The log: heads taken. -/
import Derived.Test.YtakgjjbmniilhaaMg2
set_option linter.unusedVariables false
set_option maxRecDepth 100000
set_option linter.unusedVariables false
namespace Go.Proofs.Ytakgjjbmniilhaa
open Go Go.Vm
variable {h g : Heap} {R W M : Set'}
theorem byteOf_inj {x y : V} (hx : ∃ n : Int, x = .int .u8 n ∧ 0 ≤ n ∧ n ≤ 255) (hy : ∃ n : Int, y = .int .u8 n ∧ 0 ≤ n ∧ n ≤ 255) (h : byteOf x = byteOf y) : x = y := by
  obtain ⟨n, rfl, h1, h2⟩ := hx
  obtain ⟨m, rfl, h3, h4⟩ := hy
  have := congrArg UInt8.toNat h
  simp only [byteOf] at this
  have : n = m := by simp at this; omega
  rw [this]
theorem map_byte_inj : ∀ {l m : List V}, Byt l → Byt m → l.map byteOf = m.map byteOf → l = m
  | [], [], _, _, _ => rfl
  | [], _ :: _, _, _, h => by simp at h
  | _ :: _, [], _, _, h => by simp at h
  | a :: l, b :: m, hl, hm, h => by
    simp only [List.map_cons, List.cons.injEq] at h
    rw [byteOf_inj (hl a (by simp)) (hm b (by simp)) h.1, map_byte_inj (fun v hv => hl v (by simp [hv])) (fun v hv => hm v (by simp [hv])) h.2]
theorem strB_inj {l m : List V} (hl : Byt l) (hm : Byt m) : jY l = jY m ↔ l = m := by
  constructor
  · intro h
    have := congrArg (fun b => b.data.toList) h
    exact map_byte_inj hl hm this
  · rintro rfl; rfl
def sameB (a b : List V) : Bool := decide (jY a = jY b)
theorem sameB_iff {a b : List V} (ha : Byt a) (hb : Byt b) : sameB a b = true ↔ a = b := by
  unfold sameB; rw [decide_eq_true_iff]; exact strB_inj ha hb
theorem conv_lr {S : Set'} {v : V} {l : List V} (hv : LR h S v l) (hl : Byt l) : ∃ rs, kS Try.prog 22 9 v h = some (.str (jY l), rs) := by
  rcases hv with ⟨rfl, rfl | ⟨a, rfl⟩⟩ | ⟨b, o, cap, ex, c, ce, rfl, _, hb, hs, hg⟩
  · exact ⟨[], by simp [kS, Try.underlying22, Try.underlying9, Try.underlying5]; rfl⟩
  · exact ⟨[], by simp [kS, Try.underlying22, Try.underlying9, Try.underlying5]; rfl⟩
  · exact ⟨_, conv_str hb hs hg hl⟩
theorem cvS {M : MP} {R W : Set'} {tm : Tm} {h : Heap} {K : V → Heap → Prop} (x : Operand) : LOp M R W tm h (.convert 22 9 x) K = onO (evV tm x) fun a => onO (kS M.P 22 9 a h) fun r => allB R r.2 ∧ K r.1 h := by
  apply xQ; decide
theorem sb_eql (a b : ByteArray) : strBin .eql a b = some (.bool (decide (a = b))) := by
  show some (V.bool (eqB a.data.toList b.data.toList)) = _
  rw [eqB_eq]
  congr 2
  by_cases h : a = b
  · subst h; simp
  · have : a.data.toList ≠ b.data.toList := fun e => h (by
      obtain ⟨⟨a⟩⟩ := a
      obtain ⟨⟨b⟩⟩ := b
      simp only at e
      rw [e])
    have e2 : (a.data.toList == b.data.toList) = false := beq_eq_false_iff_ne.2 this
    simp only [e2, decide_eq_false h]
theorem equal_ok {S1 S2 : Set'} {v1 v2 : V} {a b : List V} (h1 : LR h S1 v1 a) (h2 : LR h S2 v2 b) (hR : ∀ b, R b) (ha : Byt a) (hb : Byt b) : SF Try.prog 67 [v1, v2] h R W fun r g => r = .bool (sameB a b) ∧ g = h := by
  obtain ⟨r1, c1⟩ := conv_lr h1 ha
  obtain ⟨r2, c2⟩ := conv_lr h2 hb
  have q1 : allB (fun b => h.n ≤ b ∨ R b) r1 := qO fun b _ => .inr (hR b)
  have q2 : allB (fun b => h.n ≤ b ∨ R b) r2 := qO fun b _ => .inr (hR b)
  refine SF.go hm Try.func67 ir67_eq ?_
  simp -implicitDefEqProofs (disch := (first | omega | (simp -implicitDefEqProofs only [szs, ne_eq] <;> omega) | fail)) only [go_sem, seval, ↓reduceIte, reduceCtorEq, ir67, ↓cvS, c1, c2, q1, q2, sb_eql, sameB]
theorem rdB_lt : ∀ (l : List V) (s a n : Nat) (t : List V), Byt l → a < 2 ^ s → s ≤ 63 → (∃ j, s = 7 * j) → rdB s a l = some (n, t) → n < 18446744073709551616
  | [], _, _, _, _, _, _, _, _, h => by cases h
  | c :: l, s, a, n, t, hb, ha, hs, ⟨j, hj⟩, h => by
    unfold rdB at h
    split at h
    · cases h
    · rename_i hbad
      have h2 : a + bN c % 128 * 2 ^ s < 2 ^ (s + 7) := by
        rw [Nat.pow_add]
        have := Nat.mul_le_mul_right (2 ^ s) (show bN c % 128 ≤ 127 by omega)
        have e7 : 2 ^ 7 = 128 := by decide
        rw [e7]; omega
      by_cases h63 : s = 63
      · subst h63
        have : bN c ≤ 1 := by omega
        rw [if_pos (by omega)] at h
        simp only [Option.some.injEq, Prod.mk.injEq] at h
        have : bN c % 128 ≤ 1 := by omega
        have e63 : 2 ^ 63 = 9223372036854775808 := by decide
        rw [e63] at h ha
        omega
      · have hle : 2 ^ (s + 7) ≤ 2 ^ 63 := Nat.pow_le_pow_right (by omega) (by omega)
        have e63 : 2 ^ 63 = 9223372036854775808 := by decide
        split at h
        · simp only [Option.some.injEq, Prod.mk.injEq] at h
          omega
        · exact rdB_lt l (s + 7) _ n t (fun v hv => hb v (by simp [hv])) h2 (by omega) ⟨j + 1, by omega⟩ h
theorem rd_lt {l t : List V} {n : Nat} (hb : Byt l) (h : rd l = some (n, t)) : n < 18446744073709551616 := rdB_lt l 0 0 n t hb (by decide) (by omega) ⟨0, rfl⟩ h
theorem headA_none {b : List V} (h : rdL 6 b = none) : headA b = none := by unfold headA; rw [h]
def Hd.ok (H : Hd) (m : Nat) (b : List V) : Bool := decide (m = 71) && decide (H.si ≤ H.ep) && decide (H.ha < 2) && decide (1 ≤ H.fi) && sameB (putH H) b
theorem headA_ok {b : List V} {m e1 e2 e3 e4 e5 : Nat} (hb : Byt b) (h : rdL 6 b = some [m, e1, e2, e3, e4, e5]) : headA b = if Hd.ok ⟨e1, e2, e3, e4, e5⟩ m b then some ⟨e1, e2, e3, e4, e5⟩ else none := by
  unfold headA
  rw [h]
  have hq := sameB_iff (byt_putH ⟨e1, e2, e3, e4, e5⟩) hb
  simp only []
  by_cases hc : m = 71 ∧ e2 ≤ e1 ∧ e3 < 2 ∧ 1 ≤ e5 ∧ putH ⟨e1, e2, e3, e4, e5⟩ = b
  · rw [if_pos hc, if_pos]
    obtain ⟨h1, h2, h3, h4, h5⟩ := hc
    unfold Hd.ok
    simp only [h1, h2, h3, h4, hq.2 h5, decide_true, Bool.and_self]
  · rw [if_neg hc, if_neg]
    unfold Hd.ok
    intro hk
    simp only [Bool.and_eq_true, decide_eq_true_iff] at hk
    exact hc ⟨hk.1.1.1.1, hk.1.1.1.2, hk.1.1.2, hk.1.2, hq.1 hk.2⟩
theorem rdL_step (k : Nat) (l : List V) : rdL (k + 1) l = match rd l with
    | none => none
    | some (n, r) => (rdL k r).map (n :: ·) := by
  rw [rdL]
  cases rd l with
  | none => rfl
  | some x =>
    obtain ⟨n, r⟩ := x
    simp only []
    cases rdL k r <;> rfl
theorem RdAt.keep {b nb a : Nat} {l : List V} (hr : RdAt h b nb l a) (hk : ∀ k, k = b ∨ k = nb → g.get k = h.get k) : RdAt g b nb l a := by
  obtain ⟨⟨c, h1, h2⟩, ⟨c', h3, h4⟩, h5⟩ := hr
  exact ⟨⟨c, (hk _ (.inl rfl)).trans h1, h2⟩, ⟨c', (hk _ (.inr rfl)).trans h3, h4⟩, h5⟩
structure SixAt (g2 g : Heap) (b nb ab : Nat) (l : List V) (i a : Nat) (ns : List Nat) : Prop where
  n : g.n = g2.n
  k : ∀ k, k < g2.n → k ≠ b → k ≠ ab → g.get k = g2.get k
  r : RdAt g b nb l a
  al : a ≤ l.length
  len : ns.length = i
  lt : ∀ n ∈ ns, n < 18446744073709551616
  rd : rdL 6 l = (rdL (6 - i) (l.drop a)).map (ns ++ ·)
  c : ∃ c, g.get ab = some (.cells c 153) ∧ c.size = 6 ∧ c.ro = false ∧ ∀ j, j < i → c.get j = .int .u64 (ns.getD j 0 : Nat)
set_option maxHeartbeats 8000000 in
theorem take_loop {Q : Ex → Fr → Heap → Prop} {t : List It} {g2 : Heap} {v : V} {b nb ab zb : Nat} {l : List V} {tr : Tr V} {cz : Blk} (hl : l.length ≤ 1000) (hb : Byt l) (hR : ∀ b, R b) (hWb : W b) (hWa : W ab) (hWz : W zb) (hbz : zb ≠ b) (hbn : b ≠ ab ∧ nb ≠ ab ∧ zb ≠ ab)
    (z2 : g2.get zb = some (.cells cz 44)) (zs : cz.size = 5) (zr : cz.ro = false)
    (t0 : tr.get 0 = some v) (t2 : tr.get 2 = some (.ptr (some (zb, 0)))) (t4 : tr.get 4 = some (.ptr (some (b, 0)))) (t5 : tr.get 5 = some (.ptr (some (ab, 0)))) (t12 : tr.get 12 = some (.int .i64 0))
    (hs : SixAt g2 g2 b nb ab l 0 0 [])
    (hk : ∀ tr g a ns, tr.get 0 = some v → tr.get 2 = some (.ptr (some (zb, 0))) → tr.get 5 = some (.ptr (some (ab, 0))) → SixAt g2 g b nb ab l 6 a ns → resume (Try.prog : MP) R W none Q t (.exit 0) ⟨⟨65, tr⟩, []⟩ g)
    (hno : ∀ tr g, rdL 6 l = none → tr.get 2 = some (.ptr (some (zb, 0))) → tr.get 3 = some (.bool false) → g.n = g2.n → (∀ k, k < g2.n → k ≠ b → k ≠ ab → k ≠ zb → g.get k = g2.get k) → (∃ c, g.get zb = some (.cells c 44) ∧ c.size = 5 ∧ ∀ j, j < 5 → c.get j = .int .u64 0) → Q .ret ⟨⟨65, tr⟩, []⟩ g) : kE (Try.prog : MP) R W none Q ir68_l0 t ⟨⟨65, tr⟩, []⟩ g2 := by
  refine kE.inv hm (fun k f g => f.mks = [] ∧ f.tm.n = 65 ∧ f.tm.get 0 = some v ∧ f.tm.get 2 = some (.ptr (some (zb, 0))) ∧ f.tm.get 4 = some (.ptr (some (b, 0))) ∧ f.tm.get 5 = some (.ptr (some (ab, 0))) ∧ ∃ (i a : Nat) (ns : List Nat), i + k = 6 ∧ f.tm.get 12 = some (.int .i64 (i : Int)) ∧ SixAt g2 g b nb ab l i a ns) 6 ?_ ?_
  · exact ⟨rfl, rfl, t0, t2, t4, t5, 0, 0, [], rfl, t12, hs⟩
  clear t0 t2 t4 t5 t12 hs
  clear tr
  rintro k ⟨⟨n', tr⟩, mks⟩ g ⟨hmk, hn', t0, t2, t4, t5, i, a, ns, hik, t12, hs⟩
  simp only [Tm.kL] at hmk hn' t0 t2 t4 t5 t12
  subst hmk hn'
  by_cases hi : i < 6
  · have hc : (i : Int) < 6 := by omega
    have hi0 : (0 : Int) ≤ (i : Int) := by omega
    obtain ⟨gn, gk, hr, ha, hns, hlt, hrd, c, c1, c2, c3, c4⟩ := hs
    have zg := (gk zb (Heap.lt_of_get z2) hbz hbn.2.2).trans z2
    simp -implicitDefEqProofs (disch := (first | omega | (simp -implicitDefEqProofs only [szs, ne_eq] <;> omega) | fail)) only [go_sem, seval, ↓reduceIte, ir68_l0, t4, t12, hc]
    refine qK.of (rnum_ok hr hR hWb hl hb ha) ?_
    rintro r g1 ⟨k3, n3, hq⟩
    obtain ⟨k', hk6⟩ : ∃ k', 6 - i = k' + 1 := ⟨5 - i, by omega⟩
    rw [hk6, rdL_step k' (l.drop a)] at hrd
    have hbl : b < g.n := by obtain ⟨⟨c, hc, _⟩, _⟩ := hr; exact Heap.lt_of_get hc
    have zg1 := (k3 zb (Heap.lt_of_get zg) hbz).trans zg
    have c11 := (k3 ab (Heap.lt_of_get c1) (fun e => hbn.1 e.symm)).trans c1
    cases hrr : rd (l.drop a) with
    | none =>
      rw [hrr] at hq hrd
      obtain rfl := hq
      have hnn : rdL 6 l = none := by rw [hrd]; rfl
      simp -implicitDefEqProofs (disch := (first | omega | (simp -implicitDefEqProofs only [szs, ne_eq] <;> omega) | fail)) only [go_sem, seval, ↓reduceIte, qE, t2, zg1, zs, zr, hWz]
      refine hno _ _ hnn (by simp -implicitDefEqProofs (disch := (first | omega | (simp -implicitDefEqProofs only [szs, ne_eq] <;> omega) | fail)) only [go_sem, seval, ↓reduceIte, t2]) (by simp -implicitDefEqProofs (disch := (first | omega | (simp -implicitDefEqProofs only [szs, ne_eq] <;> omega) | fail)) only [go_sem, seval, ↓reduceIte]) (by rw [Heap.n_set]; omega) (fun k q1 q2 q3 q4 => ?_) ⟨_, qF (Heap.lt_of_get zg1) rfl _, ?_, ?_⟩
      · rw [qB (Heap.lt_of_get zg1) q4, k3 k (by omega) q2, gk k q1 q2 q3]
      · simp only [Blk.size_set]; exact zs
      · intro j hj
        simp only [Blk.get_set]
        have hh : j = 0 ∨ j = 1 ∨ j = 2 ∨ j = 3 ∨ j = 4 := by omega
        rcases hh with rfl | rfl | rfl | rfl | rfl <;> rfl
    | some x =>
      obtain ⟨n, t'⟩ := x
      rw [hrr] at hq hrd
      obtain ⟨rfl, a', ha', ht', hr'⟩ := hq
      have hc6 : (i : Int) < ((6 : Nat) : Int) := by omega
      simp -implicitDefEqProofs (disch := (first | omega | (simp -implicitDefEqProofs only [szs, ne_eq] <;> omega) | fail)) only [go_sem, seval, ↓reduceIte, reduceCtorEq, qE, t0, t2, t4, t5, t12, hi0, hc, c11, c2, c3, hWa]
      refine ⟨k - 1, by omega, i + 1, a', ns ++ [n], by omega, rfl, by rw [Heap.n_set]; omega, fun k q1 q2 q3 => ?_, hr'.keep fun k q1 => qB (Heap.lt_of_get c11) (by rcases q1 with rfl | rfl; exact hbn.1; exact hbn.2.1) _, ha', by rw [List.length_append, hns]; rfl, fun m hm => ?_, ?_, _, qF (Heap.lt_of_get c11) rfl _, by rw [Blk.size_set]; exact c2, by rw [Blk.qY]; exact c3, fun j hj => ?_⟩
      · rw [qB (Heap.lt_of_get c11) q3, k3 k (by omega) q2, gk k q1 q2 q3]
      · rcases List.mem_append.1 hm with hm | hm
        · exact hlt m hm
        · rw [List.mem_singleton.1 hm]; exact rd_lt (hb.drop a) hrr
      · rw [hrd, ht', show 6 - (i + 1) = k' by omega]
        simp only [Option.map_map]
        congr 1
        funext x
        simp
      · rw [Blk.get_set]
        by_cases hji : j = i
        · subst hji
          rw [if_pos rfl, ← hns, List.getD_eq_getElem?_getD, List.getElem?_append_right (Nat.le_refl _), Nat.sub_self]; rfl
        · rw [if_neg hji, c4 j (by omega), List.getD_eq_getElem?_getD, List.getD_eq_getElem?_getD, List.getElem?_append_left (by omega)]
  · have hc : ¬ (i : Int) < 6 := by omega
    obtain rfl : i = 6 := by omega
    simp -implicitDefEqProofs (disch := (first | omega | (simp -implicitDefEqProofs only [szs, ne_eq] <;> omega) | fail)) only [go_sem, seval, ↓reduceIte, ir68_l0, t12]
    exact hk _ _ a ns (by simp -implicitDefEqProofs (disch := (first | omega | (simp -implicitDefEqProofs only [szs, ne_eq] <;> omega) | fail)) only [go_sem, seval, ↓reduceIte, reduceCtorEq, t0]) (by simp -implicitDefEqProofs (disch := (first | omega | (simp -implicitDefEqProofs only [szs, ne_eq] <;> omega) | fail)) only [go_sem, seval, ↓reduceIte, t2]) (by simp -implicitDefEqProofs (disch := (first | omega | (simp -implicitDefEqProofs only [szs, ne_eq] <;> omega) | fail)) only [go_sem, seval, ↓reduceIte, t5]) hs
def Hd.zero : Hd := ⟨0, 0, 0, 0, 0⟩
theorem xR {c : Blk} {H : Hd} (h : ∀ j, j < 5 → c.get j = H.v.getD j qE) : c.gets 0 5 = H.v := by
  refine List.ext_getElem? fun j => ?_
  by_cases hj : j < 5
  · rw [Blk.qM _ _ _ _ hj, Nat.zero_add, h j hj, List.getD_eq_getElem?_getD]
    have : j < H.v.length := hj
    rw [List.getElem?_eq_getElem this]; rfl
  · rw [List.getElem?_eq_none (by rw [Blk.qJ]; omega), List.getElem?_eq_none (by show 5 ≤ j; omega)]
noncomputable def ir68_e1 : LC := (pk (fun l0 => atP (ir0 Try.f68 [l0] []) [1, 1, 1, 1, 1]) _) ir68_l0
noncomputable def ir68_e0 : LC := (pk (fun l0 p0 => jX (atP (ir0 Try.f68 [l0] []) [1, 1, 1, 1]) [1] p0) _) ir68_l0 ir68_e1
noncomputable def ir68_c : LC := (pk (fun l0 p0 => jX (ir0 Try.f68 [l0] []) [1, 1, 1, 1] p0) _) ir68_l0 ir68_e0
theorem ir68_c_eq : ir68 = ir68_c := rfl

theorem ok_71 {H : Hd} {m : Nat} {l : List V} (h : m ≠ 71) : Hd.ok H m l = false := by unfold Hd.ok; rw [decide_eq_false h]; rfl
theorem ok_si {H : Hd} {m : Nat} {l : List V} (h : ¬ H.si ≤ H.ep) : Hd.ok H m l = false := by unfold Hd.ok; rw [decide_eq_false h, Bool.and_false]; rfl
theorem ok_ha {H : Hd} {m : Nat} {l : List V} (h : ¬ H.ha < 2) : Hd.ok H m l = false := by unfold Hd.ok; rw [decide_eq_false h, Bool.and_false]; rfl
theorem ok_fi {H : Hd} {m : Nat} {l : List V} (h : ¬ 1 ≤ H.fi) : Hd.ok H m l = false := by unfold Hd.ok; rw [decide_eq_false h, Bool.and_false]; rfl
theorem ok_eq {H : Hd} {m : Nat} {l : List V} (h1 : m = 71) (h2 : H.si ≤ H.ep) (h3 : H.ha < 2) (h4 : 1 ≤ H.fi) : Hd.ok H m l = sameB (putH H) l := by unfold Hd.ok; rw [decide_eq_true h1, decide_eq_true h2, decide_eq_true h3, decide_eq_true h4]; rfl
set_option maxHeartbeats 8000000 in
theorem take_e1 {Q : Ex → Fr → Heap → Prop} {t : List It} {S : Set'} {g : Heap} {v : V} {ab zb hb' m : Nat} {H : Hd} {l : List V} {tr : Tr V} {c cz ch : Blk} (hL : H.Lt) (hv : LR g S v l) (hb : Byt l) (hR : ∀ b, R b) (hWz : W zb)
    (c1 : g.get ab = some (.cells c 153)) (c2 : c.size = 6) (g0 : c.get 0 = .int .u64 (m : Int))
    (z1 : g.get zb = some (.cells cz 44)) (z2 : cz.size = 5) (z3 : cz.ro = false)
    (e1 : g.get hb' = some (.cells ch 44)) (e2 : ch.size = 5) (e3 : ch.gets 0 5 = H.v) (hz : zb ≠ hb')
    (t0 : tr.get 0 = some v) (t2 : tr.get 2 = some (.ptr (some (zb, 0)))) (t5 : tr.get 5 = some (.ptr (some (ab, 0)))) (t9 : tr.get 9 = some (.ptr (some (hb', 0))))
    (hk : ∀ tr g', tr.get 2 = some (.ptr (some (zb, 0))) → tr.get 3 = some (.bool (Hd.ok H m l)) → g.n ≤ g'.n → (∀ k, k < g.n → k ≠ zb → g'.get k = g.get k) → (∃ c, g'.get zb = some (.cells c 44) ∧ c.size = 5 ∧ c.gets 0 5 = H.v) → Q .ret ⟨⟨65, tr⟩, []⟩ g') :
    GO (Try.prog : MP) R W none Q (It.code ir68_e1 :: t) ⟨⟨65, tr⟩, []⟩ g := by
  have x0 : ch.get 0 = .int .u64 (H.ep : Int) := by have := Blk.qM ch 5 0 0 (by omega); rw [e3] at this; exact (Option.some.inj this).symm
  have x1 : ch.get 1 = .int .u64 (H.si : Int) := by have := Blk.qM ch 5 0 1 (by omega); rw [e3] at this; exact (Option.some.inj this).symm
  have x2 : ch.get 2 = .int .u64 (H.ha : Int) := by have := Blk.qM ch 5 0 2 (by omega); rw [e3] at this; exact (Option.some.inj this).symm
  have x4 : ch.get 4 = .int .u64 (H.fi : Int) := by have := Blk.qM ch 5 0 4 (by omega); rw [e3] at this; exact (Option.some.inj this).symm
  have hRa := hR ab
  have hRh := hR hb'
  have hvl : H.v.length = 5 := rfl
  have j0 : (0 : Int) < ((6 : Nat) : Int) := by decide
  have hone : allOne H.v = true := rfl
  have hput : (cz.puts 0 H.v).gets 0 5 = H.v := xR fun j hj => by
    rw [Blk.get_puts, if_pos ⟨by omega, by rw [hvl]; omega⟩, Nat.sub_zero]
  by_cases q71 : m = 71
  rotate_left
  · have i71 : ¬ (m : Int) = 71 := by omega
    have hok := ok_71 (H := H) (l := l) q71
    simp -implicitDefEqProofs (disch := (first | omega | (simp -implicitDefEqProofs only [szs, ne_eq] <;> omega) | fail)) only [go_sem, seval, ↓reduceIte, ir68_e1, t2, t5, t9, c1, c2, hRa, g0, e1, e2, e3, hRh, z1, z2, z3, hWz, hvl, hone, qE]
    refine ⟨?_, ?_, hk _ _ (by simp -implicitDefEqProofs (disch := (first | omega | (simp -implicitDefEqProofs only [szs, ne_eq] <;> omega) | fail)) only [go_sem, seval, ↓reduceIte, t2]) (by simp -implicitDefEqProofs (disch := (first | omega | (simp -implicitDefEqProofs only [szs, ne_eq] <;> omega) | fail)) only [go_sem, seval, ↓reduceIte, hok]) (by rw [Heap.n_set]; omega) (fun k q1 q2 => (qB (Heap.lt_of_get z1) q2 _)) ⟨_, qF (Heap.lt_of_get z1) rfl _, by rw [Blk.zT]; exact z2, hput⟩⟩
    · (try simp only [List.not_mem_nil, or_false, false_or, and_false, false_implies, implies_true, not_false_eq_true, List.mem_cons, and_true, true_and]; try and_intros; all_goals (try trivial); all_goals (intro b hb; first | omega | (intro hc; first | omega | (rcases hb with hb | hb <;> first | omega))))
    · and_intros
      all_goals (intros; first | exact hR _ | exact (by assumption : False).elim | omega)
  have i71 : (m : Int) = 71 := by omega
  by_cases qsi : H.si ≤ H.ep
  rotate_left
  · have isi : ¬ (H.si : Int) ≤ (H.ep : Int) := by omega
    have hok := ok_si qsi (m := m) (l := l)
    simp -implicitDefEqProofs (disch := (first | omega | (simp -implicitDefEqProofs only [szs, ne_eq] <;> omega) | fail)) only [go_sem, seval, ↓reduceIte, ir68_e1, t2, t5, t9, c1, c2, hRa, g0, i71, isi, e1, e2, e3, x0, x1, hRh, z1, z2, z3, hWz, hvl, hone, qE]
    refine ⟨?_, ?_, hk _ _ (by simp -implicitDefEqProofs (disch := (first | omega | (simp -implicitDefEqProofs only [szs, ne_eq] <;> omega) | fail)) only [go_sem, seval, ↓reduceIte, t2]) (by simp -implicitDefEqProofs (disch := (first | omega | (simp -implicitDefEqProofs only [szs, ne_eq] <;> omega) | fail)) only [go_sem, seval, ↓reduceIte, hok]) (by rw [Heap.n_set]; omega) (fun k q1 q2 => (qB (Heap.lt_of_get z1) q2 _)) ⟨_, qF (Heap.lt_of_get z1) rfl _, by rw [Blk.zT]; exact z2, hput⟩⟩
    · (try simp only [List.not_mem_nil, or_false, false_or, and_false, false_implies, implies_true, not_false_eq_true, List.mem_cons, and_true, true_and]; try and_intros; all_goals (try trivial); all_goals (intro b hb; first | omega | (intro hc; first | omega | (rcases hb with hb | hb <;> first | omega))))
    · and_intros
      all_goals (intros; first | exact hR _ | exact (by assumption : False).elim | omega)
  have isi : (H.si : Int) ≤ (H.ep : Int) := by omega
  by_cases qha : H.ha < 2
  rotate_left
  · have iha : ¬ (H.ha : Int) < 2 := by omega
    have hok := ok_ha qha (m := m) (l := l)
    simp -implicitDefEqProofs (disch := (first | omega | (simp -implicitDefEqProofs only [szs, ne_eq] <;> omega) | fail)) only [go_sem, seval, ↓reduceIte, ir68_e1, t2, t5, t9, c1, c2, hRa, g0, i71, isi, iha, e1, e2, e3, x0, x1, x2, hRh, z1, z2, z3, hWz, hvl, hone, qE]
    refine ⟨?_, ?_, hk _ _ (by simp -implicitDefEqProofs (disch := (first | omega | (simp -implicitDefEqProofs only [szs, ne_eq] <;> omega) | fail)) only [go_sem, seval, ↓reduceIte, t2]) (by simp -implicitDefEqProofs (disch := (first | omega | (simp -implicitDefEqProofs only [szs, ne_eq] <;> omega) | fail)) only [go_sem, seval, ↓reduceIte, hok]) (by rw [Heap.n_set]; omega) (fun k q1 q2 => (qB (Heap.lt_of_get z1) q2 _)) ⟨_, qF (Heap.lt_of_get z1) rfl _, by rw [Blk.zT]; exact z2, hput⟩⟩
    · (try simp only [List.not_mem_nil, or_false, false_or, and_false, false_implies, implies_true, not_false_eq_true, List.mem_cons, and_true, true_and]; try and_intros; all_goals (try trivial); all_goals (intro b hb; first | omega | (intro hc; first | omega | (rcases hb with hb | hb <;> first | omega))))
    · and_intros
      all_goals (intros; first | exact hR _ | exact (by assumption : False).elim | omega)
  have iha : (H.ha : Int) < 2 := by omega
  by_cases qfi : 1 ≤ H.fi
  rotate_left
  · have ifi : ¬ (1 : Int) ≤ (H.fi : Int) := by omega
    have hok := ok_fi qfi (m := m) (l := l)
    simp -implicitDefEqProofs (disch := (first | omega | (simp -implicitDefEqProofs only [szs, ne_eq] <;> omega) | fail)) only [go_sem, seval, ↓reduceIte, ir68_e1, t2, t5, t9, c1, c2, hRa, g0, i71, isi, iha, ifi, e1, e2, e3, x0, x1, x2, x4, hRh, z1, z2, z3, hWz, hvl, hone, qE]
    refine ⟨?_, ?_, hk _ _ (by simp -implicitDefEqProofs (disch := (first | omega | (simp -implicitDefEqProofs only [szs, ne_eq] <;> omega) | fail)) only [go_sem, seval, ↓reduceIte, t2]) (by simp -implicitDefEqProofs (disch := (first | omega | (simp -implicitDefEqProofs only [szs, ne_eq] <;> omega) | fail)) only [go_sem, seval, ↓reduceIte, hok]) (by rw [Heap.n_set]; omega) (fun k q1 q2 => (qB (Heap.lt_of_get z1) q2 _)) ⟨_, qF (Heap.lt_of_get z1) rfl _, by rw [Blk.zT]; exact z2, hput⟩⟩
    · (try simp only [List.not_mem_nil, or_false, false_or, and_false, false_implies, implies_true, not_false_eq_true, List.mem_cons, and_true, true_and]; try and_intros; all_goals (try trivial); all_goals (intro b hb; first | omega | (intro hc; first | omega | (rcases hb with hb | hb <;> first | omega))))
    · and_intros
      all_goals (intros; first | exact hR _ | exact (by assumption : False).elim | omega)
  have ifi : (1 : Int) ≤ (H.fi : Int) := by omega
  have hok := ok_eq (l := l) q71 qsi qha qfi
  simp -implicitDefEqProofs (disch := (first | omega | (simp -implicitDefEqProofs only [szs, ne_eq] <;> omega) | fail)) only [go_sem, seval, ↓reduceIte, ir68_e1, t5, t9, c1, c2, g0, i71, isi, iha, ifi, e1, e2, e3, x0, x1, x2, x4]
  refine qN.of (SF.foot (put_ok (R := qR) (W := noW) hL (fun _ => trivial)).kept (fun _ h => h) (fun _ h => h)) ?_
  rintro r1 g1 ⟨⟨o1, k1⟩, vf1⟩
  have n1 := vf1.n
  simp -implicitDefEqProofs (disch := (first | omega | (simp -implicitDefEqProofs only [szs, ne_eq] <;> omega) | fail)) only [go_sem, seval, ↓reduceIte, reduceCtorEq, t0]
  refine qN.of (SF.foot (equal_ok (R := qR) (W := noW) o1.lr (hv.old k1) (fun _ => trivial) (byt_putH H) hb) (fun _ h => h) (fun _ h => h)) ?_
  rintro r g2 ⟨rfl, rfl⟩
  have z1' := (k1 zb (Heap.lt_of_get z1)).trans z1
  simp -implicitDefEqProofs (disch := (first | omega | (simp -implicitDefEqProofs only [szs, ne_eq] <;> omega) | fail)) only [go_sem, seval, ↓reduceIte, qE, t2, z1', z2, z3, hWz, hvl, hone]
  refine ⟨?_, ?_, hk _ _ (by simp -implicitDefEqProofs (disch := (first | omega | (simp -implicitDefEqProofs only [szs, ne_eq] <;> omega) | fail)) only [go_sem, seval, ↓reduceIte, t2]) (by simp -implicitDefEqProofs (disch := (first | omega | (simp -implicitDefEqProofs only [szs, ne_eq] <;> omega) | fail)) only [go_sem, seval, ↓reduceIte, hok]) (by rw [Heap.n_set]; omega) (fun k q1 q2 => by rw [qB (Heap.lt_of_get z1') q2, k1 k q1]) ⟨_, qF (Heap.lt_of_get z1') rfl _, by rw [Blk.zT]; exact z2, hput⟩⟩
  · simp only [noW]
    (try simp only [List.not_mem_nil, or_false, false_or, and_false, false_implies, implies_true, not_false_eq_true, List.mem_cons, and_true, true_and]; try and_intros; all_goals (try trivial); all_goals (intro b hb; first | omega | (intro hc; first | omega | (rcases hb with hb | hb <;> first | omega))))
  · simp only [noW]
    and_intros
    all_goals (intros; first | exact hR _ | exact (by assumption : False).elim | omega)
set_option maxHeartbeats 8000000 in
theorem take_e0 {Q : Ex → Fr → Heap → Prop} {t : List It} {S : Set'} {g : Heap} {v : V} {ab zb m : Nat} {H : Hd} {l : List V} {tr : Tr V} {c cz : Blk} (hL : H.Lt) (hv : LR g S v l) (hb : Byt l) (hR : ∀ b, R b) (hWz : W zb) (hWn : ∀ b, g.n ≤ b → W b)
    (c1 : g.get ab = some (.cells c 153)) (c2 : c.size = 6) (g0 : c.get 0 = .int .u64 (m : Int)) (g1 : c.get 1 = .int .u64 (H.ep : Int)) (g2 : c.get 2 = .int .u64 (H.si : Int)) (g3 : c.get 3 = .int .u64 (H.ha : Int)) (g4 : c.get 4 = .int .u64 (H.sz : Int)) (g5 : c.get 5 = .int .u64 (H.fi : Int))
    (z1 : g.get zb = some (.cells cz 44)) (z2 : cz.size = 5) (z3 : cz.ro = false)
    (t0 : tr.get 0 = some v) (t2 : tr.get 2 = some (.ptr (some (zb, 0)))) (t5 : tr.get 5 = some (.ptr (some (ab, 0))))
    (hk : ∀ tr g', tr.get 2 = some (.ptr (some (zb, 0))) → tr.get 3 = some (.bool (Hd.ok H m l)) → g.n ≤ g'.n → (∀ k, k < g.n → k ≠ zb → g'.get k = g.get k) → (∃ c, g'.get zb = some (.cells c 44) ∧ c.size = 5 ∧ c.gets 0 5 = H.v) → Q .ret ⟨⟨65, tr⟩, []⟩ g') :
    GO (Try.prog : MP) R W none Q (It.code ir68_e0 :: t) ⟨⟨65, tr⟩, []⟩ g := by
  have hRa := hR ab
  have j1 : (1 : Int) < ((6 : Nat) : Int) := by decide
  have j2 : (2 : Int) < ((6 : Nat) : Int) := by decide
  have j3 : (3 : Int) < ((6 : Nat) : Int) := by decide
  have j4 : (4 : Int) < ((6 : Nat) : Int) := by decide
  have j5 : (5 : Int) < ((6 : Nat) : Int) := by decide
  have hWg := hWn g.n (Nat.le_refl _)
  simp -implicitDefEqProofs (disch := (first | omega | (simp -implicitDefEqProofs only [szs, ne_eq] <;> omega) | fail)) only [go_sem, seval, ↓reduceIte, ir68_e0, t5, c1, c2, hRa, g1, g2, g3, g4, g5, hWg]
  have kp : ∀ (o : O) (o' : O) k, k < g.n → ((g.push o).set g.n o').get k = g.get k := fun o o' k hk => by rw [qB (by simp) (by omega), qC (by omega)]
  refine take_e1 (ab := ab) (zb := zb) (hb' := g.n) (m := m) (H := H) (l := l) (S := S) hL (hv.old fun k hk => kp _ _ k hk) hb hR hWz ((kp _ _ _ (Heap.lt_of_get c1)).trans c1) c2 g0 ((kp _ _ _ (Heap.lt_of_get z1)).trans z1) z2 z3 (qF (by simp) rfl _) (by simp only [Blk.size_set]; rfl) (xR fun j hj => ?_) (by have := Heap.lt_of_get z1; omega) (by simp -implicitDefEqProofs (disch := (first | omega | (simp -implicitDefEqProofs only [szs, ne_eq] <;> omega) | fail)) only [go_sem, seval, ↓reduceIte, reduceCtorEq, t0]) (by simp -implicitDefEqProofs (disch := (first | omega | (simp -implicitDefEqProofs only [szs, ne_eq] <;> omega) | fail)) only [go_sem, seval, ↓reduceIte, t2]) (by simp -implicitDefEqProofs (disch := (first | omega | (simp -implicitDefEqProofs only [szs, ne_eq] <;> omega) | fail)) only [go_sem, seval, ↓reduceIte, t5]) (by simp -implicitDefEqProofs (disch := (first | omega | (simp -implicitDefEqProofs only [szs, ne_eq] <;> omega) | fail)) only [go_sem, seval, ↓reduceIte]) fun tr g' q2 q3 q4 q5 q6 => hk tr g' q2 q3 (by simp at q4; omega) (fun k w1 w2 => by rw [q5 k (by simp; omega) w2]; exact kp _ _ k w1) q6
  simp only [Blk.get_set]
  have hh : j = 0 ∨ j = 1 ∨ j = 2 ∨ j = 3 ∨ j = 4 := by omega
  rcases hh with rfl | rfl | rfl | rfl | rfl <;> rfl
set_option maxHeartbeats 8000000 in
theorem take_ok {S : Set'} {v : V} {l : List V} (hv : LR h S v l) (hl : l.length ≤ 1000) (hb : Byt l) (hR : ∀ b, R b) : SF Try.prog 68 [v] h R W fun r g => ∃ H : Hd, H.Lt ∧ r = .tuple [.agg H.v, .bool (headA l).isSome] ∧ (∀ H', headA l = some H' → H' = H) ∧ h.n ≤ g.n ∧ ∀ k, k < h.n → g.get k = h.get k := by
  refine SF.go hm Try.func68 ir68_eq ?_
  rw [ir68_c_eq]
  simp -implicitDefEqProofs (disch := (first | omega | (simp -implicitDefEqProofs only [szs, ne_eq] <;> omega) | fail)) only [go_sem, seval, ↓reduceIte, reduceCtorEq, ir68_c]
  obtain ⟨h0, e0⟩ : ∃ h0, h0 = h.push (.cells (Blk.of [.int .u64 0, .int .u64 0, .int .u64 0, .int .u64 0, .int .u64 0]) 44) := ⟨_, rfl⟩
  rw [← e0]
  have n0 : h0.n = h.n + 1 := by rw [e0]; simp
  have k0 : ∀ k, k < h.n → h0.get k = h.get k := fun k hk => by rw [e0, qC (by omega)]
  have z0 : h0.get h.n = some (.cells (Blk.of [.int .u64 0, .int .u64 0, .int .u64 0, .int .u64 0, .int .u64 0]) 44) := by rw [e0]; exact qH rfl _
  clear e0
  refine qK.of (ropen_ok (hv.old k0) (fun b => .inr (hR b)) hl hb) ?_
  rintro r h1 ⟨b, nb, rfl, hr, hb1, hb2, n1, k1⟩
  obtain ⟨h2, e2⟩ : ∃ h2, h2 = h1.push (.cells (Blk.of [.int .u64 0, .int .u64 0, .int .u64 0, .int .u64 0, .int .u64 0, .int .u64 0]) 153) := ⟨_, rfl⟩
  have n2 : h2.n = h1.n + 1 := by rw [e2]; simp
  have k2 : ∀ k, k < h1.n → h2.get k = h1.get k := fun k hk => by rw [e2, qC (by omega)]
  have a2 : h2.get h1.n = some (.cells (Blk.of [.int .u64 0, .int .u64 0, .int .u64 0, .int .u64 0, .int .u64 0, .int .u64 0]) 153) := by rw [e2]; exact qH rfl _
  simp -implicitDefEqProofs (disch := (first | omega | (simp -implicitDefEqProofs only [szs, ne_eq] <;> omega) | fail)) only [go_sem, seval, ↓reduceIte, reduceCtorEq]
  rw [← e2]
  have z2 := (k2 h.n (by omega)).trans ((k1 h.n (by omega)).trans z0)
  have hr2 := hr.old k2
  clear e2
  have hbl : b < h1.n := by obtain ⟨⟨c, hc, _⟩, _⟩ := hr; exact Heap.lt_of_get hc
  have hnl : nb < h1.n := by obtain ⟨_, ⟨c, hc, _⟩, _⟩ := hr; exact Heap.lt_of_get hc
  have kk : ∀ k, k < h.n → h2.get k = h.get k := fun k hk => by rw [k2 k (by omega), k1 k (by omega), k0 k hk]
  refine take_loop (v := v) (b := b) (nb := nb) (ab := h1.n) (zb := h.n) hl hb (fun b => .inr (hR b)) (.inl (by omega)) (.inl (by omega)) (.inl (Nat.le_refl _)) (by omega) ⟨by omega, by omega, by omega⟩ z2 rfl rfl (by simp -implicitDefEqProofs (disch := (first | omega | (simp -implicitDefEqProofs only [szs, ne_eq] <;> omega) | fail)) only [go_sem, seval, ↓reduceIte]) (by simp -implicitDefEqProofs (disch := (first | omega | (simp -implicitDefEqProofs only [szs, ne_eq] <;> omega) | fail)) only [go_sem, seval, ↓reduceIte, reduceCtorEq]) (by simp -implicitDefEqProofs (disch := (first | omega | (simp -implicitDefEqProofs only [szs, ne_eq] <;> omega) | fail)) only [go_sem, seval, ↓reduceIte, reduceCtorEq]) (by simp -implicitDefEqProofs (disch := (first | omega | (simp -implicitDefEqProofs only [szs, ne_eq] <;> omega) | fail)) only [go_sem, seval, ↓reduceIte, reduceCtorEq]) (by simp -implicitDefEqProofs (disch := (first | omega | (simp -implicitDefEqProofs only [szs, ne_eq] <;> omega) | fail)) only [go_sem, seval, ↓reduceIte, reduceCtorEq]) ⟨rfl, fun _ _ _ _ => rfl, hr2, Nat.zero_le _, rfl, (fun n hn => by cases hn), by rw [List.drop_zero]; cases rdL 6 l <;> rfl, _, a2, rfl, rfl, fun j hj => by omega⟩ ?_ ?_
  rotate_left
  · rintro tr g hno t2 t3 gn gk ⟨c, c1, c2, c3⟩
    have hg := xR (c := c) (H := Hd.zero) fun j hj => by
      rw [c3 j hj]
      have hh : j = 0 ∨ j = 1 ∨ j = 2 ∨ j = 3 ∨ j = 4 := by omega
      rcases hh with rfl | rfl | rfl | rfl | rfl <;> rfl
    simp -implicitDefEqProofs (disch := (first | omega | (simp -implicitDefEqProofs only [szs, ne_eq] <;> omega) | fail)) only [go_sem, seval, t2, t3, c1, c2, hg]
    rw [headA_none hno]
    refine ⟨Hd.zero, ⟨by decide, by decide, by decide, by decide, by decide⟩, rfl, (fun H' h => by cases h), by omega, fun k hk => ?_⟩
    rw [gk k (by omega) (by omega) (by omega) (by omega), kk k hk]
  · rintro tr g a ns t0 t2 t5 ⟨gn, gk, hr', ha', hns, hlt, hrd, c, c1, c2, c3, c4⟩
    match ns, hns with
    | [m, e1, e2, e3, e4, e5], _ =>
      have hrd' : rdL 6 l = some [m, e1, e2, e3, e4, e5] := by rw [hrd]; rfl
      have hha := headA_ok hb hrd'
      have g0 : c.get 0 = .int .u64 (m : Int) := c4 0 (by omega)
      have g1 : c.get 1 = .int .u64 (e1 : Int) := c4 1 (by omega)
      have g2 : c.get 2 = .int .u64 (e2 : Int) := c4 2 (by omega)
      have g3 : c.get 3 = .int .u64 (e3 : Int) := c4 3 (by omega)
      have g4 : c.get 4 = .int .u64 (e4 : Int) := c4 4 (by omega)
      have g5 : c.get 5 = .int .u64 (e5 : Int) := c4 5 (by omega)
      have hLt : Hd.Lt ⟨e1, e2, e3, e4, e5⟩ := ⟨hlt _ (by simp), hlt _ (by simp), hlt _ (by simp), hlt _ (by simp), hlt _ (by simp)⟩
      have zg := (gk h.n (by omega) (by omega) (by omega)).trans z2
      have kg : ∀ k, k < h.n → g.get k = h.get k := fun k hk => by rw [gk k (by omega) (by omega) (by omega), kk k hk]
      have hzl : h.n < g.n := by omega
      have fin : ∀ g' : Heap, h.n ≤ g'.n → (∀ k, k < h.n → g'.get k = h.get k) → ∀ x, x = Hd.ok ⟨e1, e2, e3, e4, e5⟩ m l → ∃ H : Hd, H.Lt ∧ V.tuple [.agg [.int .u64 (e1 : Int), .int .u64 (e2 : Int), .int .u64 (e3 : Int), .int .u64 (e4 : Int), .int .u64 (e5 : Int)], .bool x] = .tuple [.agg H.v, .bool (headA l).isSome] ∧ (∀ H', headA l = some H' → H' = H) ∧ h.n ≤ g'.n ∧ ∀ k, k < h.n → g'.get k = h.get k := fun g' q1 q2 x hx => by
        refine ⟨⟨e1, e2, e3, e4, e5⟩, hLt, ?_, fun H' hH => ?_, q1, q2⟩
        · rw [hha, hx]
          cases Hd.ok ⟨e1, e2, e3, e4, e5⟩ m l <;> rfl
        · rw [hha] at hH
          split at hH
          · exact (Option.some.inj hH).symm
          · cases hH
      simp -implicitDefEqProofs (disch := (first | omega | (simp -implicitDefEqProofs only [szs, ne_eq] <;> omega) | fail)) only [go_sem, seval, ↓reduceIte]
      refine take_e0 (R := fun b => h.n ≤ b ∨ R b) (W := fun b => h.n ≤ b ∨ W b) (m := m) (H := ⟨e1, e2, e3, e4, e5⟩) hLt (hv.old kg) hb (fun b => .inr (hR b)) (.inl (Nat.le_refl _)) (fun b hb => .inl (by omega)) c1 c2 g0 g1 g2 g3 g4 g5 zg rfl rfl t0 t2 t5 ?_
      rintro tr g' t2 t3 gn' gk' ⟨c, c1, c2, c3⟩
      simp -implicitDefEqProofs (disch := (first | omega | (simp -implicitDefEqProofs only [szs, ne_eq] <;> omega) | fail)) only [go_sem, seval, t2, t3, c1, c2, c3]
      exact fin g' (by omega) (fun k hk => by rw [gk' k (by omega) (by omega), kg k hk]) _ rfl
end Go.Proofs.Ytakgjjbmniilhaa
set_option maxRecDepth 100000
set_option linter.unusedVariables false
namespace Go.Proofs.Ytakgjjbmniilhaa
open Go Go.Vm
attribute [-go_sem] qQ
variable {h g : Heap} {R W M : Set'} {bd lp fr ct : Nat} {D : DS}
def LogC (h : Heap) (lp bd fr ct : Nat) : Prop := ∃ c, h.get lp = some (.cells c 47) ∧ c.size = 13 ∧ c.get 0 = .ptr (some (bd, 0)) ∧ c.get 1 = .int .i64 (fr : Int) ∧ c.get 2 = .int .i64 (ct : Int)
theorem LogC.old (hl : LogC h lp bd fr ct) (hk : ∀ k, k < h.n → g.get k = h.get k) : LogC g lp bd fr ct := by
  obtain ⟨c, h1, h2⟩ := hl
  exact ⟨c, (hk _ (Heap.lt_of_get h1)).trans h1, h2⟩
theorem bt_86 (a b : Int) : jV Try.prog 86 [(0, .int .i64 a), (1, .int .i64 b)] = some [.int .i64 a, .int .i64 b] := by kernel_rfl
theorem halves_ok (hl : LogC h lp bd fr ct) (hc : 2 ≤ ct ∧ ct ≤ 4096) (hf : fr ≤ 4096) (hR : ∀ b, R b) : SF Try.prog 40 [.ptr (some (lp, 0))] h R W fun r g => r = .tuple [.agg [.int .i64 ((fr + 2 : Nat) : Int), .int .i64 ((fr + 2 + (ct - 2) / 2 : Nat) : Int)], .int .i64 (((ct - 2) / 2 : Nat) : Int)] ∧ h.n ≤ g.n ∧ ∀ k, k < h.n → g.get k = h.get k := by
  obtain ⟨c, h1, h2, c0, c1, c2⟩ := hl
  have hRl := hR lp
  have hlt := Heap.lt_of_get h1
  have e1 : ((ct : Int) - 2).tdiv 2 = (((ct - 2) / 2 : Nat) : Int) := by
    rw [show (ct : Int) - 2 = ((ct - 2 : Nat) : Int) by omega]; rfl
  have e2 : (fr : Int) + 2 = ((fr + 2 : Nat) : Int) := by omega
  have e3 : ((fr + 2 : Nat) : Int) + (((ct - 2) / 2 : Nat) : Int) = ((fr + 2 + (ct - 2) / 2 : Nat) : Int) := by omega
  refine SF.go hm Try.func40 ir40_eq ?_
  simp -implicitDefEqProofs (disch := (first | omega | (simp -implicitDefEqProofs only [szs, ne_eq] <;> omega) | fail)) only [go_sem, seval, ↓reduceIte, reduceCtorEq, ir40, qE, h1, h2, c1, c2, hRl, e1, e2, e3, bt_86]
  exact ⟨by (try simp only [List.not_mem_nil, or_false, false_or, and_false, implies_true, not_false_eq_true, List.mem_cons, and_true]; try and_intros; all_goals (try trivial); all_goals (intro b hb; first | omega | (intro hc; first | omega | (rcases hb with hb | hb <;> first | omega)))), fun k hk => by rw [qB (by simp) (by omega), qC (by omega)]⟩
def qL (n : Nat) : Nat := (n + 119) / 120
theorem sectors_ok {n : Nat} (hn : n ≤ 1000000000) : SF Try.prog 69 [.int .i64 (n : Int)] h R W fun r g => r = .int .i64 (qL n : Nat) ∧ g = h := by
  have e1 : ((n : Int) + 119).tdiv 120 = ((qL n : Nat) : Int) := by
    rw [show (n : Int) + 119 = ((n + 119 : Nat) : Int) by omega]; rfl
  have e2 : (n : Int) + 120 - 1 = (n : Int) + 119 := by omega
  refine SF.go hm Try.func69 ir69_eq ?_
  have e3 : IntKind.i64.wrap ((qL n : Nat) : Int) = ((qL n : Nat) : Int) := IntWalk.i64_in _ (by unfold qL; omega)
  simp -implicitDefEqProofs (disch := (first | omega | (simp -implicitDefEqProofs only [szs, ne_eq] <;> omega) | fail)) only [go_sem, seval, ↓reduceIte, reduceCtorEq, ir69, e2, e1, e3]
noncomputable def whichI (n : Nat) (f : Nat → List V) : Nat → Option Hd
  | 0 => some h00
  | i + 1 => (whichI n f i).bind (zW n i (f i))
theorem whichI_none {n : Nat} {f : Nat → List V} {i : Nat} (h : whichI n f i = none) : ∀ k, whichI n f (i + k) = none
  | 0 => h
  | k + 1 => by rw [← Nat.add_assoc, whichI, whichI_none h k]; rfl
theorem whichI_2 (n : Nat) (f : Nat → List V) : whichI n f 2 = jZ n (f 0) (f 1) := rfl
theorem zB_pad : padB [] = zB 128 := rfl
structure WhAt (h0 g : Heap) (ob zb : Nat) (H : Hd) : Prop where
  n : h0.n ≤ g.n
  k : ∀ k, k < h0.n → k ≠ ob → k ≠ zb → g.get k = h0.get k
  o : ∃ c, g.get ob = some (.cells c 44) ∧ c.size = 5 ∧ c.ro = false ∧ c.gets 0 5 = H.v
  z : ∃ c, g.get zb = some (.cells c 44) ∧ c.size = 5 ∧ c.ro = false
set_option maxHeartbeats 8000000 in
theorem which_loop {Q : Ex → Fr → Heap → Prop} {t : List It} {g0 : Heap} {ob zb : Nat} {tr : Tr V} (hx : DkX g0 M bd D) (hl : LogC g0 lp bd fr ct) (hc : 16 ≤ ct ∧ fr + ct ≤ D.n) (hR : ∀ b, R b) (hWo : W ob) (hWz : W zb) (hW : ∀ b, g0.n ≤ b → W b) (hob : ob < g0.n ∧ zb < g0.n ∧ ob ≠ zb) (hM : ∀ k, M k ∨ k = lp → k ≠ ob ∧ k ≠ zb) 
    (t0 : tr.get 0 = some (.ptr (some (lp, 0)))) (t2 : tr.get 2 = some (.ptr (some (zb, 0)))) (t4 : tr.get 4 = some (.ptr (some (ob, 0)))) (t6 : tr.get 6 = some (.int .i64 (((ct - 2) / 2 : Nat) : Int))) (t18 : tr.get 18 = some (.int .i64 0))
    (hs : WhAt g0 g0 ob zb h00)
    (hk : ∀ tr g H, whichI ((ct - 2) / 2) (fun i => D.seen (fr + i)) 2 = some H → H.Lt → tr.get 2 = some (.ptr (some (zb, 0))) → tr.get 4 = some (.ptr (some (ob, 0))) → WhAt g0 g ob zb H → resume (Try.prog : MP) R W none Q t (.exit 0) ⟨⟨85, tr⟩, []⟩ g)
    (hno : ∀ tr g, whichI ((ct - 2) / 2) (fun i => D.seen (fr + i)) 2 = none → tr.get 2 = some (.ptr (some (zb, 0))) → tr.get 3 = some (.bool false) → (∃ H, WhAt g0 g ob zb H) → (∃ c, g.get zb = some (.cells c 44) ∧ c.size = 5 ∧ c.gets 0 5 = Hd.zero.v) → Q .ret ⟨⟨85, tr⟩, []⟩ g) : kE (Try.prog : MP) R W none Q ir34_l0 t ⟨⟨85, tr⟩, []⟩ g0 := by
  have hpos := hx.pos
  refine kE.inv hm (fun k f g => f.mks = [] ∧ f.tm.n = 85 ∧ f.tm.get 0 = some (.ptr (some (lp, 0))) ∧ f.tm.get 2 = some (.ptr (some (zb, 0))) ∧ f.tm.get 4 = some (.ptr (some (ob, 0))) ∧ f.tm.get 6 = some (.int .i64 (((ct - 2) / 2 : Nat) : Int)) ∧ ∃ (i : Nat) (H : Hd), i + k = 2 ∧ f.tm.get 18 = some (.int .i64 (i : Int)) ∧ H.Lt ∧ whichI ((ct - 2) / 2) (fun i => D.seen (fr + i)) i = some H ∧ WhAt g0 g ob zb H) 2 ?_ ?_
  · exact ⟨rfl, rfl, t0, t2, t4, t6, 0, h00, rfl, t18, ⟨by decide, by decide, by decide, by decide, by decide⟩, rfl, hs⟩
  clear t0 t2 t4 t6 t18 hs
  clear tr
  rintro k ⟨⟨n', tr⟩, mks⟩ g ⟨hmk, hn', t0, t2, t4, t6, i, H, hik, t18, hLt, hwi, hs⟩
  simp only [Tm.kL] at hmk hn' t0 t2 t4 t6 t18
  subst hmk hn'
  by_cases hi : i < 2
  rotate_left
  · have hc2 : ¬ (i : Int) < 2 := by omega
    obtain rfl : i = 2 := by omega
    simp -implicitDefEqProofs (disch := (first | omega | (simp -implicitDefEqProofs only [szs, ne_eq] <;> omega) | fail)) only [go_sem, seval, ↓reduceIte, ir34_l0, t18]
    exact hk _ _ H hwi hLt (by simp -implicitDefEqProofs (disch := (first | omega | (simp -implicitDefEqProofs only [szs, ne_eq] <;> omega) | fail)) only [go_sem, seval, ↓reduceIte, t2]) (by simp -implicitDefEqProofs (disch := (first | omega | (simp -implicitDefEqProofs only [szs, ne_eq] <;> omega) | fail)) only [go_sem, seval, ↓reduceIte, t4]) hs
  have hc2 : (i : Int) < 2 := by omega
  obtain ⟨gn, gk, ⟨co, o1, o2, o3, o4⟩, ⟨cz, z1, z2, z3⟩⟩ := hs
  have hxg : DkX g M bd D := hx.same gn fun k h1 => gk k (hx.lt k h1) (hM k (.inl h1)).1 (hM k (.inl h1)).2
  obtain ⟨cl, l1, l2, l3, l4, l5⟩ := hl
  have l1g := (gk lp (Heap.lt_of_get l1) (hM lp (.inr rfl)).1 (hM lp (.inr rfl)).2).trans l1
  have hRl := hR lp
  have e1 : (fr : Int) + (i : Int) = ((fr + i : Nat) : Int) := by omega
  simp -implicitDefEqProofs (disch := (first | omega | (simp -implicitDefEqProofs only [szs, ne_eq] <;> omega) | fail)) only [go_sem, seval, ↓reduceIte, reduceCtorEq, ir34_l0, t0, t18, hc2, l1g, l2, l3, l4, e1]
  refine qN.of (SF.foot (read_dk (R := qR) (W := noW) hxg (fun _ => trivial) (s := fr + i) (by omega)) (fun _ h => h) (fun _ h => h)) ?_
  rintro r g1 ⟨b, rfl, hb, n1, k1⟩
  have hlen := (hx.sec (s := fr + i) (by omega)).1
  have hby := (hx.sec (s := fr + i) (by omega)).2
  simp -implicitDefEqProofs (disch := (first | omega | (simp -implicitDefEqProofs only [szs, ne_eq] <;> omega) | fail)) only [go_sem, seval, ↓reduceIte]
  refine ⟨⟨fun _ => hR _, fun _ => hR _, fun b _ _ => hR b, fun b _ h => h.elim⟩, ?_⟩
  refine qK.of (SF.foot (sector_ok (R := R) (W := noW) (h := g1) (S := qR) (v := .slice none 0 0 true) (l := []) (.inl ⟨rfl, .inl rfl⟩) hR (by simp) Byt.nil) (fun _ h => h) (fun _ h => h.elim)) ?_
  rintro r g2 ⟨ho2, n2, k2⟩
  rw [zB_pad] at ho2
  simp -implicitDefEqProofs (disch := (first | omega | (simp -implicitDefEqProofs only [szs, ne_eq] <;> omega) | fail)) only [go_sem, seval, ↓reduceIte]
  refine qK.of (equal_ok (hb.old k2) ho2.lr hR hby (byt_zB _)) ?_
  rintro r g3 ⟨rfl, rfl⟩
  have kk : ∀ k, k < g.n → g3.get k = g.get k := fun k hk => by rw [k2 k (by omega), k1 k hk]
  have hs3 : WhAt g0 g3 ob zb H := ⟨by omega, fun k q1 q2 q3 => by rw [kk k (by omega)]; exact gk k q1 q2 q3, ⟨co, (kk _ (Heap.lt_of_get o1)).trans o1, o2, o3, o4⟩, ⟨cz, (kk _ (Heap.lt_of_get z1)).trans z1, z2, z3⟩⟩
  have hwn : whichI ((ct - 2) / 2) (fun i => D.seen (fr + i)) (i + 1) = zW ((ct - 2) / 2) i (D.seen (fr + i)) H := by
    rw [whichI, hwi]; rfl
  by_cases hzero : D.seen (fr + i) = zB 128
  · have hsb : sameB (D.seen (fr + i)) (zB 128) = true := (sameB_iff hby (byt_zB _)).2 hzero
    have hw1 : whichI ((ct - 2) / 2) (fun i => D.seen (fr + i)) (i + 1) = some H := by rw [hwn]; exact if_pos hzero
    simp -implicitDefEqProofs (disch := (first | omega | (simp -implicitDefEqProofs only [szs, ne_eq] <;> omega) | fail)) only [go_sem, seval, ↓reduceIte, reduceCtorEq, t0, t2, t4, t6, t18, hsb]
    exact ⟨k - 1, by omega, i + 1, H, by omega, rfl, hLt, hw1, hs3⟩
  have hsb : sameB (D.seen (fr + i)) (zB 128) = false := by
    rw [Bool.eq_false_iff]; exact fun h => hzero ((sameB_iff hby (byt_zB _)).1 h)
  simp -implicitDefEqProofs (disch := (first | omega | (simp -implicitDefEqProofs only [szs, ne_eq] <;> omega) | fail)) only [go_sem, seval, ↓reduceIte, hsb]
  refine qK.of (SF.foot (take_ok (R := R) (W := noW) (hb.old k2) (by omega) hby hR) (fun _ h => h) (fun _ h => h.elim)) ?_
  rintro r g4 ⟨H', hLt', rfl, hHH, n4, k4⟩
  have hHv : H'.v = [.int .u64 (H'.ep : Int), .int .u64 (H'.si : Int), .int .u64 (H'.ha : Int), .int .u64 (H'.sz : Int), .int .u64 (H'.fi : Int)] := rfl
  rw [hHv]
  have hWn := hW g4.n (by omega)
  have z1' := (k4 zb (by omega)).trans ((kk _ (Heap.lt_of_get z1)).trans z1)
  have o1' := (k4 ob (by omega)).trans ((kk _ (Heap.lt_of_get o1)).trans o1)
  have hl4 : zb < g4.n := by omega
  have hl5 : ob < g4.n := by omega
  have gk4 : ∀ k, k < g0.n → k ≠ ob → k ≠ zb → g4.get k = g0.get k := fun k q1 q2 q3 => by rw [k4 k (by omega), hs3.k k q1 q2 q3]
  have hm2 : (H'.ep : Int).tmod 2 = ((H'.ep % 2 : Nat) : Int) := rfl
  have hw3 : IntKind.u64.wrap (i : Int) = (i : Int) := wrap64 (by omega)
  have hw4 : IntKind.u64.wrap ((((ct - 2) / 2 : Nat) : Int) * 120) = (((ct - 2) / 2 * 120 : Nat) : Int) := by
    rw [show (((ct - 2) / 2 : Nat) : Int) * 120 = (((ct - 2) / 2 * 120 : Nat) : Int) by omega]; exact wrap64 (by omega)
  have hw5 : IntKind.u64.wrap (((H'.ep % 2 : Nat) : Int)) = ((H'.ep % 2 : Nat) : Int) := wrap64 (by omega)
  have bad : zW ((ct - 2) / 2) i (D.seen (fr + i)) H = none → ∀ tr g', tr.get 2 = some (.ptr (some (zb, 0))) → tr.get 3 = some (.bool false) → g4.n ≤ g'.n → (∀ k, k < g4.n → k ≠ zb → g'.get k = g4.get k) → (∃ c, g'.get zb = some (.cells c 44) ∧ c.size = 5 ∧ c.ro = false ∧ c.gets 0 5 = Hd.zero.v) → Q .ret ⟨⟨85, tr⟩, []⟩ g' := fun hn tr g' u2 u3 gn' gk' ⟨c, c1, c2, c3, c4⟩ => by
    refine hno tr g' ?_ u2 u3 ⟨H, by omega, fun k q1 q2 q3 => by rw [gk' k (by omega) q3]; exact gk4 k q1 q2 q3, ⟨co, by rw [gk' ob hl5 hob.2.2]; exact o1', o2, o3, o4⟩, ⟨c, c1, c2, c3⟩⟩ ⟨c, c1, c2, c4⟩
    have := whichI_none (hwn.trans hn) (2 - (i + 1))
    rwa [show i + 1 + (2 - (i + 1)) = 2 by omega] at this
  have hRn := hR g4.n
  cases hh : headA (D.seen (fr + i)) with
  | none =>
    have hs0 : (none : Option Hd).isSome = false := rfl
    have hn : zW ((ct - 2) / 2) i (D.seen (fr + i)) H = none := by unfold zW; rw [if_neg hzero, hh]
    rw [hs0]
    simp -implicitDefEqProofs (disch := (first | omega | (simp -implicitDefEqProofs only [szs, ne_eq] <;> omega) | fail)) only [go_sem, seval, ↓reduceIte, qE, t2, z1', z2, z3, hWz, hWn, ]
    refine bad hn _ _ (by simp -implicitDefEqProofs (disch := (first | omega | (simp -implicitDefEqProofs only [szs, ne_eq] <;> omega) | fail)) only [go_sem, seval, ↓reduceIte, t2]) (by simp -implicitDefEqProofs (disch := (first | omega | (simp -implicitDefEqProofs only [szs, ne_eq] <;> omega) | fail)) only [go_sem, seval, ↓reduceIte]) (by simp only [Heap.n_set, Heap.qG]; omega) (fun k q1 q2 => by rw [qB (by simp only [Heap.n_set, Heap.qG]; omega) q2, qB (by simp) (by omega), qC (by omega)]) ⟨_, qF (by simp only [Heap.n_set, Heap.qG]; omega) rfl _, by simp only [Blk.size_set]; exact z2, by simp only [Blk.qY]; exact z3, xR fun j hj => ?_⟩
    simp only [Blk.get_set]
    have hh : j = 0 ∨ j = 1 ∨ j = 2 ∨ j = 3 ∨ j = 4 := by omega
    rcases hh with rfl | rfl | rfl | rfl | rfl <;> rfl
  | some H2 =>
    obtain rfl := hHH H2 hh
    have hs1 : (some H2).isSome = true := rfl
    rw [hs1]
    have hnn : ¬ mayH ((ct - 2) / 2) i H2 → zW ((ct - 2) / 2) i (D.seen (fr + i)) H = none := fun hm => by unfold zW; rw [if_neg hzero, hh]; exact if_neg hm
    by_cases m1 : H2.ep % 2 = i
    rotate_left
    · have i1 : ¬ ((H2.ep % 2 : Nat) : Int) = (i : Int) := by omega
      simp -implicitDefEqProofs (disch := (first | omega | (simp -implicitDefEqProofs only [szs, ne_eq] <;> omega) | fail)) only [go_sem, seval, ↓reduceIte, qE, t2, z1', z2, z3, hWz, hWn, hRn, hw3, hm2]
      refine bad (hnn fun h => m1 h.2.1) _ _ (by simp -implicitDefEqProofs (disch := (first | omega | (simp -implicitDefEqProofs only [szs, ne_eq] <;> omega) | fail)) only [go_sem, seval, ↓reduceIte, t2]) (by simp -implicitDefEqProofs (disch := (first | omega | (simp -implicitDefEqProofs only [szs, ne_eq] <;> omega) | fail)) only [go_sem, seval, ↓reduceIte]) (by simp only [Heap.n_set, Heap.qG]; omega) (fun k q1 q2 => by rw [qB (by simp only [Heap.n_set, Heap.qG]; omega) q2, qB (by simp) (by omega), qC (by omega)]) ⟨_, qF (by simp only [Heap.n_set, Heap.qG]; omega) rfl _, by simp only [Blk.size_set]; exact z2, by simp only [Blk.qY]; exact z3, xR fun j hj => ?_⟩
      simp only [Blk.get_set]
      have hh : j = 0 ∨ j = 1 ∨ j = 2 ∨ j = 3 ∨ j = 4 := by omega
      rcases hh with rfl | rfl | rfl | rfl | rfl <;> rfl
    have i1 : ((H2.ep % 2 : Nat) : Int) = (i : Int) := by omega
    by_cases m2 : H2.ep ≠ 0
    rotate_left
    · have i2 : ((H2.ep : Int) == 0) = true := by rw [beq_iff_eq]; omega
      simp -implicitDefEqProofs (disch := (first | omega | (simp -implicitDefEqProofs only [szs, ne_eq] <;> omega) | fail)) only [go_sem, seval, ↓reduceIte, qE, t2, z1', z2, z3, hWz, hWn, hRn, hw3, hm2, i1, i2]
      refine bad (hnn fun h => m2 h.1) _ _ (by simp -implicitDefEqProofs (disch := (first | omega | (simp -implicitDefEqProofs only [szs, ne_eq] <;> omega) | fail)) only [go_sem, seval, ↓reduceIte, t2]) (by simp -implicitDefEqProofs (disch := (first | omega | (simp -implicitDefEqProofs only [szs, ne_eq] <;> omega) | fail)) only [go_sem, seval, ↓reduceIte]) (by simp only [Heap.n_set, Heap.qG]; omega) (fun k q1 q2 => by rw [qB (by simp only [Heap.n_set, Heap.qG]; omega) q2, qB (by simp) (by omega), qC (by omega)]) ⟨_, qF (by simp only [Heap.n_set, Heap.qG]; omega) rfl _, by simp only [Blk.size_set]; exact z2, by simp only [Blk.qY]; exact z3, xR fun j hj => ?_⟩
      simp only [Blk.get_set]
      have hh : j = 0 ∨ j = 1 ∨ j = 2 ∨ j = 3 ∨ j = 4 := by omega
      rcases hh with rfl | rfl | rfl | rfl | rfl <;> rfl
    have i2 : ¬ (H2.ep : Int) = 0 := by omega
    by_cases m3 : H2.sz ≤ (ct - 2) / 2 * 120
    rotate_left
    · have i3 : (((ct - 2) / 2 * 120 : Nat) : Int) < (H2.sz : Int) := by omega
      simp -implicitDefEqProofs (disch := (first | omega | (simp -implicitDefEqProofs only [szs, ne_eq] <;> omega) | fail)) only [go_sem, seval, ↓reduceIte, qE, t2, t6, z1', z2, z3, hWz, hWn, hRn, hw3, hw4, hm2, i1, i3]
      refine bad (hnn fun h => m3 h.2.2.2.2) _ _ (by simp -implicitDefEqProofs (disch := (first | omega | (simp -implicitDefEqProofs only [szs, ne_eq] <;> omega) | fail)) only [go_sem, seval, ↓reduceIte, t2]) (by simp -implicitDefEqProofs (disch := (first | omega | (simp -implicitDefEqProofs only [szs, ne_eq] <;> omega) | fail)) only [go_sem, seval, ↓reduceIte]) (by simp only [Heap.n_set, Heap.qG]; omega) (fun k q1 q2 => by rw [qB (by simp only [Heap.n_set, Heap.qG]; omega) q2, qB (by simp) (by omega), qC (by omega)]) ⟨_, qF (by simp only [Heap.n_set, Heap.qG]; omega) rfl _, by simp only [Blk.size_set]; exact z2, by simp only [Blk.qY]; exact z3, xR fun j hj => ?_⟩
      simp only [Blk.get_set]
      have hh : j = 0 ∨ j = 1 ∨ j = 2 ∨ j = 3 ∨ j = 4 := by omega
      rcases hh with rfl | rfl | rfl | rfl | rfl <;> rfl
    have i3 : ¬ (((ct - 2) / 2 * 120 : Nat) : Int) < (H2.sz : Int) := by omega
    by_cases m4 : H2.ep ≤ 4611686018427387904
    rotate_left
    · have i4 : 4611686018427387904 < (H2.ep : Int) := by omega
      simp -implicitDefEqProofs (disch := (first | omega | (simp -implicitDefEqProofs only [szs, ne_eq] <;> omega) | fail)) only [go_sem, seval, ↓reduceIte, qE, t2, t6, z1', z2, z3, hWz, hWn, hRn, hw3, hw4, hm2, i1, i3, i4]
      refine bad (hnn fun h => m4 h.2.2.1) _ _ (by simp -implicitDefEqProofs (disch := (first | omega | (simp -implicitDefEqProofs only [szs, ne_eq] <;> omega) | fail)) only [go_sem, seval, ↓reduceIte, t2]) (by simp -implicitDefEqProofs (disch := (first | omega | (simp -implicitDefEqProofs only [szs, ne_eq] <;> omega) | fail)) only [go_sem, seval, ↓reduceIte]) (by simp only [Heap.n_set, Heap.qG]; omega) (fun k q1 q2 => by rw [qB (by simp only [Heap.n_set, Heap.qG]; omega) q2, qB (by simp) (by omega), qC (by omega)]) ⟨_, qF (by simp only [Heap.n_set, Heap.qG]; omega) rfl _, by simp only [Blk.size_set]; exact z2, by simp only [Blk.qY]; exact z3, xR fun j hj => ?_⟩
      simp only [Blk.get_set]
      have hh : j = 0 ∨ j = 1 ∨ j = 2 ∨ j = 3 ∨ j = 4 := by omega
      rcases hh with rfl | rfl | rfl | rfl | rfl <;> rfl
    have i4 : ¬ 4611686018427387904 < (H2.ep : Int) := by omega
    by_cases m5 : H2.fi ≤ 4611686018427387904
    rotate_left
    · have i5 : 4611686018427387904 < (H2.fi : Int) := by omega
      simp -implicitDefEqProofs (disch := (first | omega | (simp -implicitDefEqProofs only [szs, ne_eq] <;> omega) | fail)) only [go_sem, seval, ↓reduceIte, qE, t2, t6, z1', z2, z3, hWz, hWn, hRn, hw3, hw4, hm2, i1, i3, i4, i5]
      refine bad (hnn fun h => m5 h.2.2.2.1) _ _ (by simp -implicitDefEqProofs (disch := (first | omega | (simp -implicitDefEqProofs only [szs, ne_eq] <;> omega) | fail)) only [go_sem, seval, ↓reduceIte, t2]) (by simp -implicitDefEqProofs (disch := (first | omega | (simp -implicitDefEqProofs only [szs, ne_eq] <;> omega) | fail)) only [go_sem, seval, ↓reduceIte]) (by simp only [Heap.n_set, Heap.qG]; omega) (fun k q1 q2 => by rw [qB (by simp only [Heap.n_set, Heap.qG]; omega) q2, qB (by simp) (by omega), qC (by omega)]) ⟨_, qF (by simp only [Heap.n_set, Heap.qG]; omega) rfl _, by simp only [Blk.size_set]; exact z2, by simp only [Blk.qY]; exact z3, xR fun j hj => ?_⟩
      simp only [Blk.get_set]
      have hh : j = 0 ∨ j = 1 ∨ j = 2 ∨ j = 3 ∨ j = 4 := by omega
      rcases hh with rfl | rfl | rfl | rfl | rfl <;> rfl
    have i5 : ¬ 4611686018427387904 < (H2.fi : Int) := by omega
    have hmay : mayH ((ct - 2) / 2) i H2 := ⟨m2, m1, m4, m5, m3⟩
    have hws : zW ((ct - 2) / 2) i (D.seen (fr + i)) H = some (if H.ep < H2.ep then H2 else H) := by unfold zW; rw [if_neg hzero, hh]; exact if_pos hmay
    have xo : co.get 0 = .int .u64 (H.ep : Int) := by have := Blk.qM co 5 0 0 (by omega); rw [o4] at this; exact (Option.some.inj this).symm
    have hWo' := hWo
    have hRo := hR ob
    by_cases hgt : H.ep < H2.ep
    · have i6 : (H.ep : Int) < (H2.ep : Int) := by omega
      rw [if_pos hgt] at hws
      simp -implicitDefEqProofs (disch := (first | omega | (simp -implicitDefEqProofs only [szs, ne_eq] <;> omega) | fail)) only [go_sem, seval, ↓reduceIte, reduceCtorEq, qE, t0, t2, t4, t6, t18, hWn, hRn, hw3, hw4, hm2, i1, i3, i4, i5, i6, xo, o1', o2, o3, hRo, hWo]
      refine ⟨k - 1, by omega, i + 1, H2, by omega, rfl, hLt', hwn.trans hws, by simp only [Heap.n_set, Heap.qG]; omega, fun k q1 q2 q3 => ?_, ⟨_, qF (by simp only [Heap.n_set, Heap.qG]; omega) rfl _, by simp only [Blk.size_set]; exact o2, by simp only [Blk.qY]; exact o3, xR fun j hj => ?_⟩, ⟨cz, ?_, z2, z3⟩⟩
      · rw [qB (by simp only [Heap.n_set, Heap.qG]; omega) q2, qB (by simp) (by omega), qC (by omega)]; exact gk4 k q1 q2 q3
      · simp only [Blk.get_set]
        have hh : j = 0 ∨ j = 1 ∨ j = 2 ∨ j = 3 ∨ j = 4 := by omega
        rcases hh with rfl | rfl | rfl | rfl | rfl <;> rfl
      · rw [qB (by simp only [Heap.n_set, Heap.qG]; omega) (fun e => hob.2.2 e.symm), qB (by simp) (by omega), qC (by omega)]; exact z1'
    · have i6 : ¬ (H.ep : Int) < (H2.ep : Int) := by omega
      rw [if_neg hgt] at hws
      simp -implicitDefEqProofs (disch := (first | omega | (simp -implicitDefEqProofs only [szs, ne_eq] <;> omega) | fail)) only [go_sem, seval, ↓reduceIte, reduceCtorEq, qE, t0, t2, t4, t6, t18, hWn, hRn, hw3, hw4, hm2, i1, i3, i4, i5, i6, xo, o1', o2, hRo]
      refine ⟨k - 1, by omega, i + 1, H, by omega, rfl, hLt, hwn.trans hws, by simp only [Heap.n_set, Heap.qG]; omega, fun k q1 q2 q3 => ?_, ⟨co, ?_, o2, o3, o4⟩, ⟨cz, ?_, z2, z3⟩⟩
      · rw [qB (by simp) (by omega), qC (by omega)]; exact gk4 k q1 q2 q3
      · rw [qB (by simp) (by omega), qC (by omega)]; exact o1'
      · rw [qB (by simp) (by omega), qC (by omega)]; exact z1'
end Go.Proofs.Ytakgjjbmniilhaa
