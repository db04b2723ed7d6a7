/- Both News of any numbers; quotas of one's own; begin. -/
import Derived.Test.YthdkhbhicimpdaaEA
set_option linter.unusedVariables false
set_option maxRecDepth 100000
namespace Go.Vm
theorem append_nilS {e sz bytes : Nat} {h : Heap} {b o m cap : Nat} {ex : Bool} {ce : TypeId} {c : Blk} (hb : h.get b = some (.cells c ce)) (hsz : o + m * sz ≤ c.size) (h0 : 0 < m) (hB : m * bytes ≤ 140737488355328) (hbig : m ≤ 9223372036854775807) :
    appE e sz bytes (.slice none 0 0 true) (.slice (some (b, o)) m cap ex) h = some ⟨.slice (some (h.n, 0)) m m false, h.push (.cells (Blk.of (c.gets o (m * sz))) e), [b], []⟩ := by
  unfold appE
  simp only [lenOfV, firstV, hb, Nat.zero_add, Nat.zero_mul, w_ble_t hsz, Blk.length_gets, w_beq_t (rfl : m * sz = m * sz), w_ble_f h0, List.length_nil, w_beq_t (rfl : 0 = 0), w_ble_t hB, w_ble_t hbig]
  rfl
end Go.Vm
namespace Go.Proofs.Ythdkhbhicimpdaa
open Go Go.Vm
attribute [-go_sem] sz_113
def OC (q : Nat → Int) (n m : Nat) (e : Int) : Prop := ((m = 0 ∨ 8 < m) ∧ e = 2) ∨ (1 ≤ m ∧ m ≤ 8 ∧ (((∃ i, i < m ∧ q i < 0) ∧ e = 2) ∨ ((∀ i, i < m → 0 ≤ q i) ∧ (stQ q n m).2 = true ∧ e = 5) ∨ ((∀ i, i < m → 0 ≤ q i) ∧ (stQ q n m).2 = false ∧ e = 0)))
theorem OC.uniq {q : Nat → Int} {n m : Nat} {e e' : Int} (h : OC q n m e) (h' : OC q n m e') : e = e' := by
  rcases h with ⟨h1, rfl⟩ | ⟨h1, h2, ⟨⟨i, hi, h3⟩, rfl⟩ | ⟨h3, h4, rfl⟩ | ⟨h3, h4, rfl⟩⟩ <;> rcases h' with ⟨g1, rfl⟩ | ⟨g1, g2, ⟨⟨j, hj, g3⟩, rfl⟩ | ⟨g3, g4, rfl⟩ | ⟨g3, g4, rfl⟩⟩ <;> first | rfl | omega | (have := h3 j hj; omega) | (have := g3 i hi; omega) | (rw [h4] at g4; cases g4)
def qN (q : Nat → Int) : Nat → Nat := fun a => (q a).toNat
theorem xnew_any {h : Heap} {R W : Set'} {bd : Nat} {L : DL} {D : DS} (hd : DiskAt h bd L D) (hR : ∀ b, R b) {v : V} {m : Nat} {q : Nat → Int} (hq : QI h v m q) : SF Try.prog 14 [.ptr (some (bd, 0)), v] h R W fun r h' => h.n ≤ h'.n ∧ (∀ b, b < h.n → h'.get b = h.get b) ∧ ∃ p e, r = .tuple [p, .int .i64 e] ∧ OC q D.n m e ∧ ((e = 0 ∧ p = .ptr (some (h.n, 0)) ∧ ExtAt h' h.n bd (fun a => h.n + 1 + a) (XS.new m (qN q)) ∧ h.n < h'.n) ∨ (e ≠ 0 ∧ p = .ptr none)) := by
  by_cases hm1 : m = 0 ∨ 8 < m
  · refine (xnew_arg hd hR hq hm1).mono ?_
    rintro r h' ⟨rfl, rfl⟩
    exact ⟨Nat.le_refl _, fun _ _ => rfl, _, _, rfl, .inl ⟨hm1, rfl⟩, .inr ⟨by omega, rfl⟩⟩
  have hm2 : 1 ≤ m ∧ m ≤ 8 := by omega
  by_cases hneg : ∃ i, i < m ∧ q i < 0
  · refine (xnew_bad hd hR hq hm2 (.inl ⟨rfl, hneg⟩)).mono ?_
    rintro r h' ⟨rfl, h1, h2⟩
    exact ⟨h1, h2, _, _, rfl, .inr ⟨hm2.1, hm2.2, .inl ⟨hneg, rfl⟩⟩, .inr ⟨by omega, rfl⟩⟩
  have hpos : ∀ i, i < m → 0 ≤ q i := fun i hi => by
    by_cases hh : 0 ≤ q i
    · exact hh
    · exact absurd ⟨i, hi, by omega⟩ hneg
  by_cases hfu : (stQ q D.n m).2 = true
  · refine (xnew_bad hd hR hq hm2 (.inr ⟨rfl, hpos, hfu⟩)).mono ?_
    rintro r h' ⟨rfl, h1, h2⟩
    exact ⟨h1, h2, _, _, rfl, .inr ⟨hm2.1, hm2.2, .inr (.inl ⟨hpos, hfu, rfl⟩)⟩, .inr ⟨by omega, rfl⟩⟩
  have hfu' : (stQ q D.n m).2 = false := by simpa using hfu
  obtain ⟨s1, s2⟩ := stQ_good hpos hfu'
  have hqv : QV h v m (qN q) := by
    rcases hq.at' with ⟨h0, _⟩ | ⟨b, o, cap, ex, cq, ce, rfl, hb, hsz, hcap, hget⟩
    · omega
    · refine ⟨b, o, cap, ex, cq, ce, rfl, hb, hsz, fun i hi => ?_⟩
      rw [hget i hi]
      have := hpos i hi
      congr 1
      simp only [qN]
      omega
  refine (xnew_ok hd hR hqv hm2 s2).mono ?_
  rintro r h' ⟨rfl, h1, h2⟩
  have := h1.lt h.n (.inl rfl)
  exact ⟨by omega, h2, _, _, rfl, .inr ⟨hm2.1, hm2.2, .inr (.inr ⟨hpos, hfu', rfl⟩)⟩, .inl ⟨rfl, rfl, h1, this⟩⟩
theorem rnew_any {h : Heap} {R W S : Set'} {rd : Nat} {D : DS} (hr : RefAt h S rd D) (hR : ∀ b, R b) {v : V} {m : Nat} {q : Nat → Int} (hq : QI h v m q) : SF Try.prog 31 [.ptr (some (rd, 0)), v] h R W fun r h' => h.n ≤ h'.n ∧ (∀ b, b < h.n → h'.get b = h.get b) ∧ ∃ p e, r = .tuple [p, .int .i64 e] ∧ OC q D.n m e ∧ ((e = 0 ∧ p = .ptr (some (h.n, 0)) ∧ (∃ qb hb, RExt h' (fun b => h.n ≤ b) h.n rd qb hb (fun a => h.n + 1 + 5 * a + 2) (XS.new m (qN q))) ∧ ∀ i, i < m → 0 ≤ q i) ∨ (e ≠ 0 ∧ p = .ptr none)) := by
  by_cases hm1 : m = 0 ∨ 8 < m
  · refine (rnew31_arg hq hm1).mono ?_
    rintro r h' ⟨rfl, rfl⟩
    exact ⟨Nat.le_refl _, fun _ _ => rfl, _, _, rfl, .inl ⟨hm1, rfl⟩, .inr ⟨by omega, rfl⟩⟩
  have hm2 : 1 ≤ m ∧ m ≤ 8 := by omega
  refine (rnew31_go hr hR hq hm2).mono ?_
  rintro r h' ⟨h1, h2, ⟨h3, rfl⟩ | ⟨h3, h4, rfl⟩ | ⟨h3, h4, rfl, sq, vq, vh, rn⟩⟩
  · exact ⟨h1, h2, _, _, rfl, .inr ⟨hm2.1, hm2.2, .inl ⟨h3, rfl⟩⟩, .inr ⟨by omega, rfl⟩⟩
  · exact ⟨h1, h2, _, _, rfl, .inr ⟨hm2.1, hm2.2, .inr (.inl ⟨h3, h4, rfl⟩)⟩, .inr ⟨by omega, rfl⟩⟩
  · exact ⟨h1, h2, _, _, rfl, .inr ⟨hm2.1, hm2.2, .inr (.inr ⟨h3, h4, rfl⟩)⟩, .inl ⟨rfl, rfl, rn.ext hm2 hr.pos.2 h3 h4, h3⟩⟩
def OwnB (g : Heap) (nb m : Nat) (q : Nat → Int) (i : Nat) : Prop := ∃ c, g.get nb = some (.cells c 3) ∧ c.size = m + 1 ∧ c.ro = false ∧ ∀ j, i ≤ j → j < m → c.get j = .int .i64 (q j)
theorem own_app {g : Heap} {v : V} {m : Nat} {q : Nat → Int} (hq : QI g v m q) (hm : m ≤ 20) :
    ∃ a1 h1 r1 h3 r3 w3, appE 3 1 8 (.slice none 0 0 true) v g = some ⟨a1, h1, r1, []⟩ ∧ appE 3 1 8 a1 (.slice (some (h1.n, 0)) 1 1 true) (h1.push (.cells (Blk.of [.int .i64 77]) 3)) = some ⟨.slice (some (h1.n + 1, 0)) (m + 1) (m + 1) false, h3, r3, w3⟩ ∧ g.n ≤ h1.n ∧ h3.n = h1.n + 2 ∧ (∀ b, b ∈ w3 → g.n ≤ b) ∧ (∀ b, b < g.n → h3.get b = g.get b) ∧ OwnB h3 (h1.n + 1) m q 0 := by
  have key : ∃ a1 h1 r1, appE 3 1 8 (.slice none 0 0 true) v g = some ⟨a1, h1, r1, []⟩ ∧ g.n ≤ h1.n ∧ (∀ b, b < g.n → h1.get b = g.get b) ∧ (∃ l : List V, l.length = m ∧ GrowAt h1 a1 l 3 ∧ ∀ i, i < m → l.getD i undefV = .int .i64 (q i)) ∧ ∀ b n c x, a1 = .slice (some (b, 0)) n c x → g.n ≤ b := by
    rcases hq.at' with ⟨rfl, rfl | ⟨a, rfl⟩⟩ | ⟨b, o, cap, ex, c, ce, rfl, hb, hsz, hcap, hget⟩
    · exact ⟨_, _, _, rfl, Nat.le_refl _, fun _ _ => rfl, ⟨[], rfl, .inl ⟨rfl, rfl⟩, fun i hi => by omega⟩, fun b n c x e => by cases e⟩
    · exact ⟨.slice none 0 0 true, g, _, rfl, Nat.le_refl _, fun _ _ => rfl, ⟨[], rfl, .inl ⟨rfl, rfl⟩, fun i hi => by omega⟩, fun b n c x e => by cases e⟩
    · by_cases h0 : m = 0
      · subst h0
        refine ⟨.slice none 0 0 true, g, [b], ?_, Nat.le_refl _, fun _ _ => rfl, ⟨[], rfl, .inl ⟨rfl, rfl⟩, fun i hi => by omega⟩, fun b n c x e => by cases e⟩
        unfold appE
        simp only [lenOfV, firstV, hb, Nat.zero_mul, Nat.add_zero, w_ble_t (show o ≤ c.size by omega), w_gets_zero]
        rfl
      · refine ⟨_, _, _, append_nilS hb (by omega) (by omega) (by omega) (by omega), by simp, fun b hb => by rw [w_push_ne (by omega)], ⟨c.gets o (m * 1), by rw [Blk.length_gets]; omega, .inr ⟨g.n, ?_, ?_, w_push_eq rfl _⟩, fun i hi => ?_⟩, fun b n c x e => ?_⟩
        · intro e
          have := congrArg List.length e
          rw [Blk.length_gets] at this
          simp at this
          omega
        · rw [Blk.length_gets, Nat.mul_one]
        · rw [List.getD_eq_getElem?_getD, Blk.gets_get _ _ _ _ (by omega), Option.getD_some]; exact hget i hi
        · cases e; exact Nat.le_refl _
  obtain ⟨a1, h1, r1, e1, n1, k1, ⟨l, ll, gr, gl⟩, hbk⟩ := key
  have gr2 : GrowAt (h1.push (.cells (Blk.of [.int .i64 77]) 3)) a1 l 3 := gr.keep fun b hb => by rw [w_push_ne (by omega)]
  obtain ⟨h3, r3, w3, e3, n3, b3, k3, rw3⟩ := grow_app (P := Try.prog) (bytes := 8) (xb := h1.n) (x := .int .i64 77) gr2 (w_push_eq rfl _) rfl (by omega) (by omega)
  rw [ll] at e3 k3 rw3
  simp only [Heap.n_push] at e3 n3 b3 k3 rw3
  refine ⟨a1, h1, r1, h3, r3, w3, e1, e3, n1, n3, fun b hb => ?_, fun b hb => ?_, ⟨_, b3, by rw [w_of_size]; simp [ll], rfl, fun j _ hj => ?_⟩⟩
  · rcases rw3 with ⟨_, rfl, _⟩ | ⟨b', _, ev, _, _, rfl⟩
    · simp at hb
    · rw [List.mem_singleton.1 hb]
      exact hbk _ _ _ _ ev
  · rw [k3 b (by omega) (fun b' ev => by have := hbk _ _ _ _ ev; omega), w_push_ne (by omega)]
    exact k1 b hb
  · rw [Blk.get_of _ _ (by simp; omega), ← gl j hj, List.getD_eq_getElem?_getD, List.getD_eq_getElem?_getD, List.getElem?_append_left (by omega)]
theorem slice_lo (b off len cap hi : Nat) (h1 : hi ≤ cap) (h2 : len ≤ cap) (h0 : 0 < cap) : sliceV Try.prog 22 (.slice (some (b, off)) len cap false) none (some (hi : Int)) none = some (.slice (some (b, off)) hi cap false) := by
  have hbv : boundsV len cap none (some (hi : Int)) none = some (0, hi, cap) := by
    simp only [boundsV, Int.toNat_natCast]
    rw [if_pos (by omega)]
  simp [sliceV, Try.underlying22, sz_3, hbv, h2]
theorem own_loop {g : Heap} {R W : Set'} {Q : Ex → Fr → Heap → Prop} {t : List It} {v v4 v6 v10 v11 v12 v13 : V} {m nb : Nat} {q : Nat → Int} (hq : QI g v m q) (hm20 : m ≤ 20) (hR : ∀ b, R b) (hW : W nb) (ho : OwnB g nb m q 0) (hv : ∀ b n c o x, v = .slice (some (b, o)) n c x → b ≠ nb)
    (hk : ∀ (tr : Tr V) g', (∀ b, b ≠ nb → g'.get b = g.get b) → g'.n = g.n → tr.get 4 = some v4 → tr.get 6 = some v6 → tr.get 10 = some v10 → tr.get 11 = some v11 → tr.get 12 = some v12 → tr.get 13 = some v13 → resume (Try.prog : MP) R W none Q t (.exit 0) ⟨⟨89, tr⟩, []⟩ g')
    {f : Fr} (g0 : f.mks = []) (g1 : f.tm.n = 89) (f1 : f.tm.get 1 = some v) (f4 : f.tm.get 4 = some v4) (f6 : f.tm.get 6 = some v6) (f9 : f.tm.get 9 = some (.slice (some (nb, 0)) (m + 1) (m + 1) false)) (f10 : f.tm.get 10 = some v10) (f11 : f.tm.get 11 = some v11) (f12 : f.tm.get 12 = some v12) (f13 : f.tm.get 13 = some v13) (f14 : f.tm.get 14 = some (.int .i64 0)) :
    GLoop (Try.prog : MP) R W none Q ir10_l0 t f g := by
  refine GLoop.inv hm (fun k f h' => f.mks = [] ∧ f.tm.n = 89 ∧ f.tm.get 1 = some v ∧ f.tm.get 4 = some v4 ∧ f.tm.get 6 = some v6 ∧ f.tm.get 9 = some (.slice (some (nb, 0)) (m + 1) (m + 1) false) ∧ f.tm.get 10 = some v10 ∧ f.tm.get 11 = some v11 ∧ f.tm.get 12 = some v12 ∧ f.tm.get 13 = some v13 ∧ (∀ b, b ≠ nb → h'.get b = g.get b) ∧ h'.n = g.n ∧ ∃ i : Nat, i + k = m ∧ f.tm.get 14 = some (.int .i64 i) ∧ OwnB h' nb m q i) m ?_ ?_
  · exact ⟨g0, g1, f1, f4, f6, f9, f10, f11, f12, f13, fun _ _ => rfl, rfl, 0, by omega, f14, ho⟩
  clear g0 g1 f1 f4 f6 f9 f10 f11 f12 f13 f14
  rintro k ⟨⟨n', tr⟩, mks⟩ h' ⟨hmk, hn, t1, t4, t6, t9, t10, t11, t12, t13, hold, hn', i, hi, t14, c, c1, csz, cro, cg⟩
  simp only [Tm.get_mk] at hmk hn t1 t4 t6 t9 t10 t11 t12 t13 t14
  subst hmk hn
  have hlv := hq.lenV
  have hlc := Heap.lt_of_get c1
  have hRn := hR nb
  by_cases him : i < m
  · rcases hq.at' with ⟨h0, _⟩ | ⟨b, o, cap, ex, cq, ce, rfl, hb, hsz, hcap, hget⟩
    · omega
    have hqi := hget i him
    have hRb := hR b
    have hb' := (hold b (hv _ _ _ _ _ rfl)).trans hb
    have hci := cg i (Nat.le_refl _) him
    have hne : ∀ x : Int, (x != x) = false := fun x => by simp
    simp -implicitDefEqProofs (disch := (first | omega | fail)) only [go_sem, Nat.reduceAdd, Nat.reduceLT, Nat.reduceEqDiff, ↓reduceIte, ir10_l0, t1, t4, t6, t9, t10, t11, t12, t13, t14, hb', hqi, hRb, c1, csz, cro, hci, hRn, hne]
    exact ⟨hW, k - 1, by omega, fun b hb => by rw [w_set_ne hlc hb]; exact hold b hb, hn', i + 1, by omega, congrArg _ (by omega), ⟨_, by rw [w_set_eq hlc rfl], by rw [Blk.size_set]; exact csz, by rw [Blk.ro_set]; exact cro, fun j hj hjm => by rw [w_bset_ne (by omega)]; exact cg j (by omega) hjm⟩⟩
  · simp -implicitDefEqProofs (disch := (first | omega | fail)) only [go_sem, Nat.reduceAdd, Nat.reduceLT, Nat.reduceEqDiff, ↓reduceIte, ir10_l0, t1, t14, ↓hlv]
    exact hk _ h' hold hn' (by simp -implicitDefEqProofs (disch := (first | omega | fail)) only [go_sem, Nat.reduceEqDiff, ↓reduceIte, t4]) (by simp -implicitDefEqProofs (disch := (first | omega | fail)) only [go_sem, Nat.reduceEqDiff, ↓reduceIte, t6]) (by simp -implicitDefEqProofs (disch := (first | omega | fail)) only [go_sem, Nat.reduceEqDiff, ↓reduceIte, t10]) (by simp -implicitDefEqProofs (disch := (first | omega | fail)) only [go_sem, Nat.reduceEqDiff, ↓reduceIte, t11]) (by simp -implicitDefEqProofs (disch := (first | omega | fail)) only [go_sem, Nat.reduceEqDiff, ↓reduceIte, t12]) (by simp -implicitDefEqProofs (disch := (first | omega | fail)) only [go_sem, Nat.reduceEqDiff, ↓reduceIte, t13])
theorem RExt.live {h : Heap} {S : Set'} {rx rd qb hb : Nat} {hk : Nat → Nat} {X : XS} (hr : RExt h S rx rd qb hb hk X) : RExt h (fun b => S b ∧ b < h.n) rx rd qb hb hk X := by
  obtain ⟨⟨s1, s2, s3, s4⟩, pos, ⟨c, xq, xh, x1, x2⟩, ⟨q, q1, q2⟩, ⟨v, v1, v2⟩, b, r1, r2, r3, z⟩ := hr
  exact ⟨⟨⟨s1, Heap.lt_of_get x1⟩, ⟨s2, Heap.lt_of_get q1⟩, ⟨s3, Heap.lt_of_get v1⟩, fun a ha h0 => ⟨s4 a ha h0, by obtain ⟨c, c1, _⟩ := b a ha h0; exact Heap.lt_of_get c1⟩⟩, pos, ⟨c, xq, xh, x1, x2⟩, ⟨q, q1, q2⟩, ⟨v, v1, v2⟩, b, r1, r2, r3, fun a ha h0 => by
    obtain ⟨c, c1, c2⟩ := z a ha h0
    exact ⟨c, c1, c2.imp id fun h => h.imp id fun ⟨b, cp, x, e, hS, cc, hb⟩ => ⟨b, cp, x, e, ⟨hS, Heap.lt_of_get hb⟩, cc, hb⟩⟩⟩
theorem RefFresh.keep {h h' : Heap} {n0 rd n : Nat} {F : Nat → List V} {sb : Nat → Nat} (hf : RefFresh h n0 rd n F sb) (hk : ∀ b, n0 ≤ b → b < h.n → h'.get b = h.get b) : RefFresh h' n0 rd n F sb := by
  obtain ⟨lo, ⟨c, fb, pb, xf, c1, cs, cr, c0, c2, c3, rf, rp, ⟨cf, f1, f2⟩, p1⟩, hs, inj⟩ := hf
  refine ⟨lo, ⟨c, fb, pb, xf, by rw [hk _ lo (Heap.lt_of_get c1)]; exact c1, cs, cr, c0, c2, c3, rf, rp, ⟨cf, by rw [hk _ rf (Heap.lt_of_get f1)]; exact f1, f2⟩, by rw [hk _ rp (Heap.lt_of_get p1)]; exact p1⟩, fun s hss => ?_, inj⟩
  obtain ⟨h1, cc, e1, e2⟩ := hs s hss
  exact ⟨h1, cc, by rw [hk _ h1 (Heap.lt_of_get e1)]; exact e1, e2⟩
def Both (h : Heap) (n : Nat) (m : Nat) (q : Nat → Int) (x d r : V) : Prop := ∃ (u : UU) (S S2 : Set') (rx rd qb hb : Nat) (hk : Nat → Nat), x = .ptr (some (u.bx, 0)) ∧ d = .ptr (some (u.bd, 0)) ∧ r = .ptr (some (rx, 0)) ∧ AtU h u ∧ RExt h S rx rd qb hb hk u.X ∧ RefAt h S2 rd u.D ∧ (∀ b, S b → b < h.n) ∧ u.X.n = m ∧ u.D.n = n ∧ ∀ i, i < m → (u.X.count i : Int) = q i
end Go.Proofs.Ythdkhbhicimpdaa
