/- The log: load's range over parts. -/
import Derived.Test.YtakgjjbmniilhaaHC
set_option linter.unusedVariables false
set_option linter.unusedSimpArgs false
set_option linter.unusedSimpArgs false
set_option maxRecDepth 100000
set_option linter.unusedVariables false
set_option linter.unusedSimpArgs false
namespace Go.Proofs.Ytakgjjbmniilhaa
open Go Go.Vm
attribute [-go_sem] sz_101
variable {h g : Heap} {R W M : Set'} {bd lp fr ct : Nat} {D : DS}
theorem recA_dat {b : List V} {r : Rc} (hb : Byt b) (h : recA b = some r) : r.dat.length ≤ 108 ∧ Byt r.dat := by
  obtain ⟨rfl, ⟨h2, _⟩, _⟩ := recA_some h
  refine ⟨?_, (hb.drop 19).take _⟩
  show ((b.drop 19).take (bAt b 18)).length ≤ 108
  rw [List.length_take]; omega
structure LdI (hA g : Heap) (lp bd fr ct bw : Nat) (v10 v11 : V) (H : Hd) (D : DS) (F : List (List V) × Nat × Nat) (p : Nat) (s : LS) : Prop where
  n : hA.n ≤ g.n
  k : ∀ k, k < hA.n → k ≠ lp → k ≠ bw → k ≠ bw + 1 → k ≠ bw + 2 → g.get k = hA.get k
  m : LdM g lp bd fr ct bw hA.n v10 v11 H s
  r : (runL (secA D fr ct H.ha) H.ep ((ct - 2) / 2 - p) p s).fin = F
  at' : s.at' + s.cn = p
  nx : s.nx ≤ H.fi + p
  rs : s.rs.length ≤ p
  rc : s.rc.length ≤ 108 * p
  by' : Byt s.rc
theorem LdI.step {hA g' : Heap} {bw p : Nat} {v10 v11 : V} {H : Hd} {F : List (List V) × Nat × Nat} {s : LS} {r : Rc} (hi : LdI hA g lp bd fr ct bw v10 v11 H D F p s) (hp : p < (ct - 2) / 2) (hr : recA (secA D fr ct H.ha p) = some r) (hb : ¬ badL H.ep s r) (hd : r.dat.length ≤ 108 ∧ Byt r.dat)
    (hn : g.n ≤ g'.n) (hk : ∀ k, k < hA.n → k ≠ lp → k ≠ bw → k ≠ bw + 1 → k ≠ bw + 2 → g'.get k = g.get k) (hm : LdM g' lp bd fr ct bw hA.n v10 v11 H (goodL s r)) : LdI hA g' lp bd fr ct bw v10 v11 H D F (p + 1) (goodL s r) := by
  obtain ⟨i1, i2, i3, i4, i5, i6, i7, i8, i9⟩ := hi
  refine ⟨by omega, fun k h1 h2 h3 h4 h5 => (hk k h1 h2 h3 h4 h5).trans (i2 k h1 h2 h3 h4 h5), hm, ?_, ?_, ?_, ?_, ?_, ?_⟩
  · rw [show (ct - 2) / 2 - p = ((ct - 2) / 2 - (p + 1)) + 1 by omega, runL, hr] at i4
    simp only [if_neg hb] at i4
    exact i4
  all_goals
    by_cases he : r.pl + 1 = r.of
    · rw [good_end he]; first | (simp only; omega) | (simp only [List.length_append, List.length_cons, List.length_nil]; omega) | exact Byt.nil
    · rw [good_mid he]; simp only [midL]; first | omega | (rw [List.length_append]; omega) | exact i9.app hd.2
set_option maxHeartbeats 8000000 in
theorem ld_range {Q : Ex → Fr → Heap → Prop} {t : List It} {mks : List Nat} {bw xb b1 b2 a : Nat} {cx : Blk} {H : Hd} {tr : Tr V} {v10 v11 : V} (hR : ∀ b, R b) (hW : ∀ k, bw ≤ k → W k) (hWl : W lp)
    (hlo : lp < bw ∧ xb < bw ∧ xb ≠ lp ∧ bw + 2 < b1 ∧ bw + 2 < b2 ∧ bw + 2 < g.n)
    (hx : DkX g M bd D) (hM : ∀ k, M k → k < bw ∧ k ≠ lp)
    (t1 : tr.get 1 = some (.ptr (some (xb, 0)))) (t8 : tr.get 8 = some (.ptr (some (bw, 0)))) (t9 : tr.get 9 = some (.ptr (some (bw + 1, 0)))) (t10 : tr.get 10 = some (.ptr (some (bw + 2, 0))))
    (t102 : tr.get 102 = some (.func 91 [] [.ptr (some (b1, 0)), .ptr (some (b2, 0))]))
    (x1 : g.get xb = some (.cells cx 32)) (x2 : cx.size = 1) (x3 : cx.get 0 = .ptr (some (lp, 0)))
    (y1 : g.get b1 = some (.cells (Blk.of [.ptr (some (lp, 0))]) 32)) (y2 : g.get b2 = some (.cells (Blk.of [.int .i64 (a : Int)]) 3))
    (hc : 16 ≤ ct ∧ fr + ct ≤ D.n) (hD : D.n ≤ 4096) (hha : H.ha < 2) (hfi : H.fi ≤ 4611686018427387904) (ha : a ≤ (ct - 2) / 2)
    (hl : LdM g lp bd fr ct bw (g.n + 2) v10 v11 H (freshL H.fi H.si [] a))
    (hk : ∀ g' s, LdM g' lp bd fr ct bw (g.n + 2) v10 v11 H s → s.fin = (runL (secA D fr ct H.ha) H.ep ((ct - 2) / 2 - a) a (freshL H.fi H.si [] a)).fin → g.n ≤ g'.n → g'.get g.n = some (.deferred true) → (∀ k, k < bw → k ≠ lp → g'.get k = g.get k) → GO (⟨Try.prog, true⟩ : MP) R W none Q t ⟨⟨211, tr⟩, g.n :: mks⟩ g') :
    GRange ⟨Try.prog, true⟩ R W none Q (.tmp 102) #[103, 104] (rc35 0).1 (rc35 0).2 (.blk 2 :: t) ⟨⟨211, tr⟩, mks⟩ g := by
  obtain ⟨hlb, hxb, hxl, hb1, hb2, hbn⟩ := hlo
  have hsec : ∀ s, s < D.n → (D.seen s).length = 128 ∧ Byt (D.seen s) := fun s hs => hx.sec hs
  refine GRange.outer (k := 91) (xs := []) (ys := [.ptr (some (b1, 0)), .ptr (some (b2, 0))]) (by simp -implicitDefEqProofs (disch := (first | omega | (simp -implicitDefEqProofs only [szs, ne_eq] <;> omega) | fail)) only [go_sem, seval, ↓reduceIte, reduceCtorEq, t102]) ca_91 ?_
  obtain ⟨hA, eA⟩ : ∃ hA, hA = (g.push (.deferred true)).push (.loop (lvL tr g.n)) := ⟨_, rfl⟩
  rw [show (([] ++ [V.yield (g.n + 1)]) ++ [.ptr (some (b1, 0)), .ptr (some (b2, 0))] : List V) = [V.yield (g.n + 1), .ptr (some (b1, 0)), .ptr (some (b2, 0))] from rfl, show (#[103, 104] : Array Tmp).toList = [103, 104] from rfl, show (⟨.ready, none, ⟨211, tr⟩, [103, 104], (rc35 0).1, (rc35 0).2, g.n⟩ : Loopv) = lvL tr g.n from rfl, ← eA]
  have nA : hA.n = g.n + 2 := by rw [eA]; simp
  have kA : ∀ b, b < g.n → hA.get b = g.get b := fun b hb => by rw [eA, w_push_ne (by simp; omega), w_push_ne (by omega)]
  have mA : hA.get g.n = some (.deferred true) := by rw [eA, w_push_ne (by simp)]; exact w_push_eq rfl _
  have lA : hA.get (g.n + 1) = some (.loop (lvL tr g.n)) := by rw [eA]; exact w_push_eq (by simp) _
  clear eA
  obtain ⟨F, eF⟩ : ∃ F, F = (runL (secA D fr ct H.ha) H.ep ((ct - 2) / 2 - a) a (freshL H.fi H.si [] a)).fin := ⟨_, rfl⟩
  rw [← eF] at hk
  rw [← nA] at hk hl
  have hlA : LdM hA lp bd fr ct bw hA.n v10 v11 H (freshL H.fi H.si [] a) := hl.keep fun k c e h1 => (kA k (Heap.lt_of_get h1)).trans h1
  have L0 : LdI hA hA lp bd fr ct bw v10 v11 H D F a (freshL H.fi H.si [] a) := ⟨Nat.le_refl _, fun _ _ _ _ _ _ => rfl, hlA, eF.symm, rfl, by show H.fi ≤ _; omega, Nat.zero_le _, Nat.zero_le _, Byt.nil⟩
  have Wc : ∀ k, (k = g.n + 1 ∨ k = lp ∨ k = bw ∨ k = bw + 1 ∨ k = bw + 2) → k < hA.n := fun k hk => by rcases hk with rfl | rfl | rfl | rfl | rfl <;> omega
  have WW : ∀ k, (hA.n ≤ k ∨ (k = g.n + 1 ∨ k = lp ∨ k = bw ∨ k = bw + 1 ∨ k = bw + 2)) → W k := fun k hk => by
    rcases hk with hk | rfl | rfl | rfl | rfl | rfl
    · exact hW k (by omega)
    · exact hW _ (by omega)
    · exact hWl
    · exact hW _ (by omega)
    · exact hW _ (by omega)
    · exact hW _ (by omega)
  refine SF.mono (SF.foot (seq91 (h := hA) (y := g.n + 1) (M := M) (bd := bd) (D := D) (lp := lp) (fr := fr) (ct := ct) (H := H) (b1 := b1) (b2 := b2) (a := a) (W := fun k => k = g.n + 1 ∨ k = lp ∨ k = bw ∨ k = bw + 1 ∨ k = bw + 2) (fun p g' => ∃ s, LdI hA g' lp bd fr ct bw v10 v11 H D F p s) (fun g' => ∃ s, hA.n ≤ g'.n ∧ (∀ k, k < hA.n → k ≠ g.n + 1 → k ≠ lp → k ≠ bw → k ≠ bw + 1 → k ≠ bw + 2 → g'.get k = hA.get k) ∧ LdM g' lp bd fr ct bw hA.n v10 v11 H s ∧ s.fin = F ∧ g'.get (g.n + 1) = some (.loop { lvL tr g.n with state := .done, pending := some (.exit 2) })) hc hD hha hsec ((kA b1 (Heap.lt_of_get y1)).trans y1) ((kA b2 (Heap.lt_of_get y2)).trans y2) ha ⟨_, L0⟩ ?_ ?_ Wc ?_) (fun b _ => hR b) fun k hk => WW k (.inr hk)) ?_
  · rintro p g' ⟨s, hi⟩
    obtain ⟨c, cw, cr, cn, rv, v, vs, hl'⟩ := hi.m
    refine ⟨hx.same (by have := hi.n; omega) fun k hk => ?_, ⟨c, hl'.l1, hl'.l2, hl'.l3, hl'.k0, hl'.k1, hl'.k2, hl'.k3⟩, hi.k b1 (by have := Heap.lt_of_get y1; omega) (by omega) (by omega) (by omega) (by omega), hi.n⟩
    have := hM k hk
    rw [hi.k k (by omega) this.2 (by omega) (by omega) (by omega), kA k (by omega)]
  · rintro p g1 g2 ⟨s, hi⟩ hn hk
    exact ⟨s, by have := hi.n; omega, fun k h1 h2 h3 h4 h5 => (hk k (by have := hi.n; omega)).trans (hi.k k h1 h2 h3 h4 h5), hi.m.keep fun k c e h1 => (hk k (Heap.lt_of_get h1)).trans h1, hi.r, hi.at', hi.nx, hi.rs, hi.rc, hi.by'⟩
  · rintro p n0 g1 v r hp hr ⟨s, hi⟩ ho hn0
    have hgn := hi.n
    obtain ⟨o1, o2, o3⟩ := recA_of hr
    have hsn : fr + 2 + H.ha * ((ct - 2) / 2) + p < D.n := by
      have : H.ha * ((ct - 2) / 2) + p < 2 * ((ct - 2) / 2) := by
        have : H.ha = 0 ∨ H.ha = 1 := by omega
        rcases this with e | e <;> rw [e] <;> omega
      omega
    have hdat := recA_dat (hsec _ hsn).2 hr
    have hi5 := hi.at'
    have hi6 := hi.nx
    have hi7 := hi.rs
    have hi8 := hi.rc
    have hl1 : g1.get (g.n + 1) = some (.loop (lvL tr g.n)) := (hi.k _ (by omega) (by omega) (by omega) (by omega) (by omega)).trans lA
    refine SY.mono (SY.foot (ld_round (g := g1) (y := g.n + 1) (n0 := hA.n) (mk := g.n) (S := fun b => n0 ≤ b) (s := s) (r := r) (H := H) (v10 := v10) (v11 := v11) (bd := bd) (fr := fr) (ct := ct) ⟨hlb, hxb, hxl, by omega, by omega, by omega⟩ hl1 t1 t8 t9 t10 ((hi.k xb (by omega) hxl (by omega) (by omega) (by omega)).trans ((kA xb (by omega)).trans x1)) x2 x3 ho.lr (fun b hb => by omega) hdat.2 hi.m ⟨o3, o2⟩ hdat.1 (by omega) hi.by' (by omega) (by omega) ⟨by omega, by omega⟩) (fun _ _ => trivial) (fun b hb => hb)) ?_
    rintro x g2 ⟨⟨f1, f2⟩, hq⟩
    have hly : g1.n ≤ g2.n := by rw [Heap.n_set] at f1; exact f1
    have hyl : g.n + 1 < g2.n := by omega
    have f3 : ∀ k, k ≠ g.n + 1 → k < g1.n → k ≠ lp → k ≠ bw → k ≠ bw + 1 → k ≠ bw + 2 → (k < hA.n ∨ ∀ c, g1.get k ≠ some (.cells c 5) ∧ g1.get k ≠ some (.cells c 22)) → g2.get k = g1.get k := fun k q0 q1 q2 q3 q4 q5 q6 => by
      have := f2 k q1 q2 q3 q4 q5 q6
      rw [w_set_ne hyl q0] at this; exact this
    refine ⟨?_, fun b c hb hc86 => f3 b (by omega) (Heap.lt_of_get hc86) (by omega) (by omega) (by omega) (by omega) (.inr fun c' => ⟨fun e => (by rw [hc86] at e; cases e), fun e => (by rw [hc86] at e; cases e)⟩)⟩
    rcases hq with ⟨rfl, hb, hm, hly2⟩ | ⟨rfl, hb, hm, hly2⟩
    · refine .inl ⟨rfl, _, hi.step hp hr hb hdat hly (fun k q1 q2 q3 q4 q5 => ?_) hm⟩
      by_cases e : k = g.n + 1
      · rw [e, hly2, hl1]
      · exact f3 k e (by omega) q2 q3 q4 q5 (.inl q1)
    · refine .inr ⟨rfl, s, by omega, fun k q1 q0 q2 q3 q4 q5 => (f3 k q0 (by omega) q2 q3 q4 q5 (.inl q1)).trans (hi.k k q1 q2 q3 q4 q5), hm, ?_, hly2⟩
      have := hi.r
      rw [show (ct - 2) / 2 - p = ((ct - 2) / 2 - (p + 1)) + 1 by omega, runL, hr] at this
      simp only [if_pos hb] at this
      exact this
  · rintro v g2 (⟨p, hp1, hp2, ⟨s, hi⟩, hp3⟩ | ⟨s, j1, j2, j3, j4, j5⟩)
    · have hgn := hi.n
      have hl1 : g2.get (g.n + 1) = some (.loop (lvL tr g.n)) := (hi.k _ (by omega) (by omega) (by omega) (by omega) (by omega)).trans lA
      have hlt := Heap.lt_of_get hl1
      refine ⟨_, hl1, by simp [lvL], hW _ (by omega), ?_⟩
      have hfin : s.fin = F := by
        rw [← hi.r]
        rcases hp3 with h3 | h3
        · rw [h3, Nat.sub_self]; rfl
        · by_cases h4 : p < (ct - 2) / 2
          · rw [show (ct - 2) / 2 - p = ((ct - 2) / 2 - (p + 1)) + 1 by omega, runL, h3]
          · rw [show (ct - 2) / 2 - p = 0 by omega]; rfl
      have kz : ∀ (o : O) k, k ≠ g.n + 1 → (g2.set (g.n + 1) o).get k = g2.get k := fun o k hk => w_set_ne hlt hk _
      simp only [lvL]
      simp -implicitDefEqProofs (disch := (first | omega | (simp -implicitDefEqProofs only [szs, ne_eq] <;> omega) | fail)) only [go_sem, seval, ↓reduceIte, reduceCtorEq]
      refine hk _ s (hi.m.keep fun k c e h1 => ?_) hfin (by rw [Heap.n_set]; omega) ?_ fun k h1 h2 => ?_
      · rw [kz _ k (fun e => by rw [e, hl1] at h1; cases h1)]; exact h1
      · rw [kz _ _ (by omega), hi.k _ (by omega) (by omega) (by omega) (by omega) (by omega), mA]
      · rw [kz _ _ (by omega), hi.k _ (by omega) h2 (by omega) (by omega) (by omega), kA k (by omega)]
    · have hlt := Heap.lt_of_get j5
      refine ⟨_, j5, by simp [lvL], hW _ (by omega), ?_⟩
      have kz : ∀ (o : O) k, k ≠ g.n + 1 → (g2.set (g.n + 1) o).get k = g2.get k := fun o k hk => w_set_ne hlt hk _
      simp only [lvL]
      simp -implicitDefEqProofs (disch := (first | omega | (simp -implicitDefEqProofs only [szs, ne_eq] <;> omega) | fail)) only [go_sem, seval, ↓reduceIte, reduceCtorEq]
      refine hk _ s (j3.keep fun k c e h1 => ?_) j4 (by rw [Heap.n_set]; omega) ?_ fun k h1 h2 => ?_
      · rw [kz _ k (fun e => by rw [e, j5] at h1; cases h1)]; exact h1
      · rw [kz _ _ (by omega), j2 _ (by omega) (by omega) (by omega) (by omega) (by omega) (by omega), mA]
      · rw [kz _ _ (by omega), j2 _ (by omega) (by omega) h2 (by omega) (by omega) (by omega), kA k (by omega)]
end Go.Proofs.Ytakgjjbmniilhaa
