/- Tables of pages: the document's Share and Drop. -/
import Derived.Test.YtkfhdaimememiaaF
set_option linter.unusedVariables false
set_option linter.unusedSimpArgs false
set_option linter.unusedSimpArgs false
set_option maxRecDepth 100000
set_option linter.unusedVariables false
set_option linter.unusedSimpArgs false
namespace Go.Proofs.Ytkfhdaimememiaa
open Go Go.Vm
def shLs (T : Tb) (f t : Nat) (l : List Nat) : Tb := fun a b => if a = t ∧ b ∈ l then (T f b).map fun e => ⟨e.f, e.r, false, false⟩ else T a b
theorem shLs_nil (T : Tb) (f t : Nat) : shLs T f t [] = T := by funext a b; simp [shLs]
theorem shLs_snoc {T : Tb} {f t p : Nat} {e : En} (h : T f p = some e) (l : List Nat) : shLs T f t (l ++ [p]) = (shLs T f t l).upd t p (some ⟨e.f, e.r, false, false⟩) := by
  funext a b
  unfold shLs Tb.upd
  by_cases hb : b = p
  · subst hb
    by_cases ha : a = t
    · simp [ha, h]
    · simp [ha]
  · simp [hb]
theorem shLs_all (T : Tb) (f t : Nat) : shLs T f t (pgsL T f 32) = shU T f t 32 := by
  funext a b
  unfold shLs shU
  simp only [pgsL_mem]
def drLs (T : Tb) (s : Nat) (l : List Nat) : Tb := fun a b => if a = s ∧ b ∈ l then none else T a b
theorem drLs_nil (T : Tb) (s : Nat) : drLs T s [] = T := by funext a b; simp [drLs]
theorem drLs_snoc (T : Tb) (s : Nat) (l : List Nat) (p : Nat) : drLs T s (l ++ [p]) = (drLs T s l).upd s p none := by
  funext a b
  unfold drLs Tb.upd
  by_cases hb : b = p
  · subst hb
    by_cases ha : a = s
    · simp [ha]
    · simp [ha]
  · simp [hb]
theorem drLs_all (T : Tb) (s : Nat) : drLs T s (pgsL T s 32) = clU T s 32 := by
  funext a b
  unfold drLs clU
  simp only [pgsL_mem]
  by_cases ha : a = s
  · subst ha
    by_cases hb : b < 32
    · cases hT : T a b <;> simp [hb, hT]
    · simp [hb]
  · simp [ha]
theorem pgsL_nodup (T : Tb) (s n : Nat) : (pgsL T s n).Nodup := List.nodup_range.filter _
theorem take_snocN {L : List Nat} {p : Nat} (h : p < L.length) : L.take (p + 1) = L.take p ++ [L[p]] := by
  rw [List.take_add_one, List.getElem?_eq_getElem h]; rfl
theorem natV_get {L : List Nat} {p : Nat} (h : p < L.length) : (natV L).getD p undefV = .int .i64 (L[p] : Int) := by simp [natV, h]
set_option maxHeartbeats 4000000 in
theorem rshare_ok {h : Heap} {R W : Set'} {rd : Nat} {T : Tb} (hr : RefP h rd T) (hR : ∀ b, R b) (hW : W rd) (fr to : Int) :
    SF Try.prog 35 [.ptr (some (rd, 0)), .int .i64 fr, .int .i64 to] h R W fun v h' => v = .tuple [.int .i64 (shrN T fr to), .int .i64 (shrE T fr to)] ∧ RefP h' rd (shrT T fr to) := by
  have hlt := hr.lt
  have hRr := hR rd
  refine SF.go hm Try.func35 ir35_eq ?_
  simp -implicitDefEqProofs (disch := (first | omega | (simp -implicitDefEqProofs only [szs, ne_eq] <;> omega) | fail)) only [go_sem, Nat.reduceAdd, Nat.reduceSub, Nat.reduceMul, Nat.reduceLT, Nat.reduceMod, Nat.reduceDiv, Nat.reduceEqDiff, Nat.reduceBEq, Nat.reduceLeDiff, ↓reduceIte, reduceCtorEq, Int.reduceAdd, Int.reduceSub, Int.reduceLT, Int.reduceLE, Int.reduceBEq, Int.reduceEq, Int.reduceToNat, ir35]
  refine GCall.of (in_ok fr 0) ?_
  rintro v h1 ⟨rfl, rfl⟩
  by_cases hs1 : okS fr
  · rw [decide_eq_true ((okSP0 fr).2 hs1)]
    simp -implicitDefEqProofs (disch := (first | omega | (simp -implicitDefEqProofs only [szs, ne_eq] <;> omega) | fail)) only [go_sem, Nat.reduceAdd, Nat.reduceSub, Nat.reduceMul, Nat.reduceLT, Nat.reduceMod, Nat.reduceDiv, Nat.reduceEqDiff, Nat.reduceBEq, Nat.reduceLeDiff, ↓reduceIte, reduceCtorEq, Int.reduceAdd, Int.reduceSub, Int.reduceLT, Int.reduceLE, Int.reduceBEq, Int.reduceEq, Int.reduceToNat, undefV]
    refine GCall.of (in_ok to 0) ?_
    rintro v h2 ⟨rfl, rfl⟩
    by_cases hs2 : okS to
    · rw [decide_eq_true ((okSP0 to).2 hs2)]
      by_cases hft : fr = to
      · have e : shrE T fr to = 2 := if_pos (.inr hft)
        rw [shrN, shrT, e]
        subst hft
        simp -implicitDefEqProofs (disch := (first | omega | (simp -implicitDefEqProofs only [szs, ne_eq] <;> omega) | fail)) only [go_sem, Nat.reduceAdd, Nat.reduceSub, Nat.reduceMul, Nat.reduceLT, Nat.reduceMod, Nat.reduceDiv, Nat.reduceEqDiff, Nat.reduceBEq, Nat.reduceLeDiff, ↓reduceIte, reduceCtorEq, Int.reduceAdd, Int.reduceSub, Int.reduceLT, Int.reduceLE, Int.reduceBEq, Int.reduceEq, Int.reduceToNat, undefV]
        exact hr
      · have hne : (fr == to) = false := by simpa using hft
        simp -implicitDefEqProofs (disch := (first | omega | (simp -implicitDefEqProofs only [szs, ne_eq] <;> omega) | fail)) only [go_sem, Nat.reduceAdd, Nat.reduceSub, Nat.reduceMul, Nat.reduceLT, Nat.reduceMod, Nat.reduceDiv, Nat.reduceEqDiff, Nat.reduceBEq, Nat.reduceLeDiff, ↓reduceIte, reduceCtorEq, Int.reduceAdd, Int.reduceSub, Int.reduceLT, Int.reduceLE, Int.reduceBEq, Int.reduceEq, Int.reduceToNat, undefV, hne]
        refine GCall.of (rpages_ok hr (fun b => .inr (hR b)) to) ?_
        rintro v g1 ⟨ho1, n1, k1⟩
        have hr1 := hr.old k1
        have hl1 := ho1.lr.lenV Try.underlying76
        rw [natV_len, pgs, if_pos hs2, pgsL_len] at hl1
        by_cases h0 : cntU T to.toNat 32 = 0
        · have e : shrE T fr to = 0 := by rw [shrE, if_neg (fun h => h.elim (fun h => h ⟨hs1, hs2⟩) hft), if_pos h0]
          rw [shrN, shrT, e, if_pos rfl, if_pos rfl]
          simp -implicitDefEqProofs (disch := (first | omega | (simp -implicitDefEqProofs only [szs, ne_eq] <;> omega) | fail)) only [go_sem, Nat.reduceAdd, Nat.reduceSub, Nat.reduceMul, Nat.reduceLT, Nat.reduceMod, Nat.reduceDiv, Nat.reduceEqDiff, Nat.reduceBEq, Nat.reduceLeDiff, ↓reduceIte, reduceCtorEq, Int.reduceAdd, Int.reduceSub, Int.reduceLT, Int.reduceLE, Int.reduceBEq, Int.reduceEq, Int.reduceToNat, undefV, ↓hl1, h0]
          refine GCall.of (rpages_ok hr1 (fun b => .inr (hR b)) fr) ?_
          rintro lv g2 ⟨ho2, n2, k2⟩
          have hr2 := hr1.old k2
          rw [pgs, if_pos hs1] at ho2
          obtain ⟨a, rfl⟩ : ∃ a : Nat, fr = a := ⟨fr.toNat, by unfold okS at hs1; omega⟩
          obtain ⟨t, rfl⟩ : ∃ a : Nat, to = a := ⟨to.toNat, by unfold okS at hs2; omega⟩
          rw [Int.toNat_natCast, Int.toNat_natCast] at *
          have hat : a ≠ t := fun e => hft (by rw [e])
          have l1 : (a : Int) < ((16 : Nat) : Int) := by unfold okS at hs1; omega
          have l1' : (t : Int) < ((16 : Nat) : Int) := by unfold okS at hs2; omega
          have l3 : (0 : Int) ≤ (a : Int) := by omega
          have l3' : (0 : Int) ≤ (t : Int) := by omega
          have hl2 := ho2.lr.lenV Try.underlying76
          rw [natV_len] at hl2
          have hlen := pgsL_len T a 32
          have hcl := cntU_le T a 32
          have hlv := ho2.lr
          simp -implicitDefEqProofs (disch := (first | omega | (simp -implicitDefEqProofs only [szs, ne_eq] <;> omega) | fail)) only [go_sem, Nat.reduceAdd, Nat.reduceSub, Nat.reduceMul, Nat.reduceLT, Nat.reduceMod, Nat.reduceDiv, Nat.reduceEqDiff, Nat.reduceBEq, Nat.reduceLeDiff, ↓reduceIte, reduceCtorEq, Int.reduceAdd, Int.reduceSub, Int.reduceLT, Int.reduceLE, Int.reduceBEq, Int.reduceEq, Int.reduceToNat]
          refine GLoop.inv hm (fun k f g => f.mks = [] ∧ f.tm.n = 70 ∧ f.tm.get 0 = some (.ptr (some (rd, 0))) ∧ f.tm.get 1 = some (.int .i64 a) ∧ f.tm.get 2 = some (.int .i64 t) ∧ f.tm.get 8 = some lv ∧ g2.n ≤ g.n ∧ (∀ b, b < g2.n → b ≠ rd → g.get b = g2.get b) ∧ ∃ (p : Nat), p + k = (pgsL T a 32).length ∧ f.tm.get 9 = some (.int .i64 p) ∧ RefP g rd (shLs T a t ((pgsL T a 32).take p))) (pgsL T a 32).length ?_ ?_
          · exact ⟨rfl, rfl, by simp -implicitDefEqProofs (disch := (first | omega | (simp -implicitDefEqProofs only [szs, ne_eq] <;> omega) | fail)) only [go_sem, Nat.reduceAdd, Nat.reduceSub, Nat.reduceMul, Nat.reduceLT, Nat.reduceMod, Nat.reduceDiv, Nat.reduceEqDiff, Nat.reduceBEq, Nat.reduceLeDiff, ↓reduceIte, reduceCtorEq, Int.reduceAdd, Int.reduceSub, Int.reduceLT, Int.reduceLE, Int.reduceBEq, Int.reduceEq, Int.reduceToNat], by simp -implicitDefEqProofs (disch := (first | omega | (simp -implicitDefEqProofs only [szs, ne_eq] <;> omega) | fail)) only [go_sem, Nat.reduceAdd, Nat.reduceSub, Nat.reduceMul, Nat.reduceLT, Nat.reduceMod, Nat.reduceDiv, Nat.reduceEqDiff, Nat.reduceBEq, Nat.reduceLeDiff, ↓reduceIte, reduceCtorEq, Int.reduceAdd, Int.reduceSub, Int.reduceLT, Int.reduceLE, Int.reduceBEq, Int.reduceEq, Int.reduceToNat], by simp -implicitDefEqProofs (disch := (first | omega | (simp -implicitDefEqProofs only [szs, ne_eq] <;> omega) | fail)) only [go_sem, Nat.reduceAdd, Nat.reduceSub, Nat.reduceMul, Nat.reduceLT, Nat.reduceMod, Nat.reduceDiv, Nat.reduceEqDiff, Nat.reduceBEq, Nat.reduceLeDiff, ↓reduceIte, reduceCtorEq, Int.reduceAdd, Int.reduceSub, Int.reduceLT, Int.reduceLE, Int.reduceBEq, Int.reduceEq, Int.reduceToNat], by simp -implicitDefEqProofs (disch := (first | omega | (simp -implicitDefEqProofs only [szs, ne_eq] <;> omega) | fail)) only [go_sem, Nat.reduceAdd, Nat.reduceSub, Nat.reduceMul, Nat.reduceLT, Nat.reduceMod, Nat.reduceDiv, Nat.reduceEqDiff, Nat.reduceBEq, Nat.reduceLeDiff, ↓reduceIte, reduceCtorEq, Int.reduceAdd, Int.reduceSub, Int.reduceLT, Int.reduceLE, Int.reduceBEq, Int.reduceEq, Int.reduceToNat], Nat.le_refl _, fun _ _ _ => rfl, 0, by omega, by simp -implicitDefEqProofs (disch := (first | omega | (simp -implicitDefEqProofs only [szs, ne_eq] <;> omega) | fail)) only [go_sem, Nat.reduceAdd, Nat.reduceSub, Nat.reduceMul, Nat.reduceLT, Nat.reduceMod, Nat.reduceDiv, Nat.reduceEqDiff, Nat.reduceBEq, Nat.reduceLeDiff, ↓reduceIte, reduceCtorEq, Int.reduceAdd, Int.reduceSub, Int.reduceLT, Int.reduceLE, Int.reduceBEq, Int.reduceEq, Int.reduceToNat]; rfl, by rw [List.take_zero, shLs_nil]; exact hr2⟩
          rintro k ⟨⟨n', tr⟩, mks⟩ g ⟨hmk, hn', t0, u1, u2, t8, hgn, hgo, p, hpk, t9, hg⟩
          simp only [Tm.get_mk] at hmk hn' t0 u1 u2 t8 t9
          subst hmk hn'
          by_cases hp : p < (pgsL T a 32).length
          · have hlg : LR g (fun b => g1.n ≤ b) lv (natV (pgsL T a 32)) := hlv.same fun b hb hb2 => hgo b hb2 (by have := k1 rd; have := hr.lt; omega)
            obtain ⟨b1, o1, cap1, ex1, c1, ce1, rfl, hb1, i1, j1, m1⟩ := hlg.get (i := p) (by rw [natV_len]; exact hp)
            rw [natV_get hp] at m1
            rw [natV_len] at j1
            have hRb1 := hR b1
            obtain ⟨hq, e, hT⟩ : (pgsL T a 32)[p] < 32 ∧ ∃ e, T a (pgsL T a 32)[p] = some e := by
              have := pgsL_mem.1 (List.getElem_mem hp)
              exact ⟨this.1, Option.isSome_iff_exists.1 this.2⟩
            have hsn := shLs_snoc (t := t) hT ((pgsL T a 32).take p)
            rw [← take_snocN hp] at hsn
            generalize hqe : (pgsL T a 32)[p] = q at *
            obtain ⟨c, d1, d2, d3, d4⟩ := hg.t
            have hcell := d4 a q (by omega) hq
            have hsa : shLs T a t ((pgsL T a 32).take p) a q = some e := by unfold shLs; rw [if_neg (fun h => hat h.1)]; exact hT
            rw [hsa] at hcell
            have l2 : (q : Int) < ((32 : Nat) : Int) := by omega
            have l4 : (0 : Int) ≤ (q : Int) := by omega
            have hb : a * 160 + q * 5 + 5 ≤ 2560 := by omega
            have hb' : t * 160 + q * 5 + 5 ≤ 2560 := by omega
            obtain ⟨e0, e1, e2, e3, e4⟩ := hcell
            have p1 : (p : Int) < ((pgsL T a 32).length : Int) := by omega
            have p0 : (0 : Int) ≤ (p : Int) := by omega
            have hRrd := hR rd
            have fitR := fun {h'} {c'} => RefP.fit' (h' := h') (c' := c') (s := (t : Int)) (p := (q : Int)) (x := some ⟨e.f, e.r, false, false⟩) hg d1 ⟨⟨by omega, by omega⟩, by omega, by omega⟩
            rw [Int.toNat_natCast, Int.toNat_natCast, ← hsn] at fitR
            generalize ho : t * 160 + q * 5 = o at *
            generalize ho' : a * 160 + q * 5 = oa at *
            have f2 : c.get (oa + 1 + 1) = _ := e2
            have f3 : c.get (oa + 1 + 2) = _ := e3
            have f4 : c.get (oa + 1 + 3) = _ := e4
            obtain ⟨h3, x3, n3, b3, k3⟩ : ∃ h3, (g.push (O.cells (Blk.of [V.int IntKind.i64 0, V.int IntKind.i64 0, V.bool false, V.bool false]) 34)).set g.n (O.cells (((((Blk.of [V.int IntKind.i64 0, V.int IntKind.i64 0, V.bool false, V.bool false]).set 0 (V.int IntKind.i64 (Ce.f (some e)))).set 1 (V.int IntKind.i64 (Ce.r (some e)))).set 2 (V.bool (Ce.t (some e)))).set 3 (V.bool (Ce.w (some e)))) 34) = h3 ∧ h3.n = g.n + 1 ∧
              (∃ d, h3.get g.n = some (.cells d 34) ∧ d.size = 4 ∧ d.get 0 = .int .i64 e.f ∧ d.get 1 = .int .i64 e.r) ∧ ∀ b, b < g.n → h3.get b = g.get b := ⟨_, rfl, by simp, ⟨_, w_set_eq (by simp) rfl _, rfl, by simp -implicitDefEqProofs (disch := (first | omega | (simp -implicitDefEqProofs only [szs, ne_eq] <;> omega) | fail)) only [go_sem, Nat.reduceAdd, Nat.reduceSub, Nat.reduceMul, Nat.reduceLT, Nat.reduceMod, Nat.reduceDiv, Nat.reduceEqDiff, Nat.reduceBEq, Nat.reduceLeDiff, ↓reduceIte, reduceCtorEq, Int.reduceAdd, Int.reduceSub, Int.reduceLT, Int.reduceLE, Int.reduceBEq, Int.reduceEq, Int.reduceToNat]; rfl, by simp -implicitDefEqProofs (disch := (first | omega | (simp -implicitDefEqProofs only [szs, ne_eq] <;> omega) | fail)) only [go_sem, Nat.reduceAdd, Nat.reduceSub, Nat.reduceMul, Nat.reduceLT, Nat.reduceMod, Nat.reduceDiv, Nat.reduceEqDiff, Nat.reduceBEq, Nat.reduceLeDiff, ↓reduceIte, reduceCtorEq, Int.reduceAdd, Int.reduceSub, Int.reduceLT, Int.reduceLE, Int.reduceBEq, Int.reduceEq, Int.reduceToNat]; rfl⟩, fun b hb => by simp -implicitDefEqProofs (disch := (first | omega | (simp -implicitDefEqProofs only [szs, ne_eq] <;> omega) | fail)) only [go_sem, Nat.reduceAdd, Nat.reduceSub, Nat.reduceMul, Nat.reduceLT, Nat.reduceMod, Nat.reduceDiv, Nat.reduceEqDiff, Nat.reduceBEq, Nat.reduceLeDiff, ↓reduceIte, reduceCtorEq, Int.reduceAdd, Int.reduceSub, Int.reduceLT, Int.reduceLE, Int.reduceBEq, Int.reduceEq, Int.reduceToNat]⟩
            obtain ⟨d, b3, w1, w2, w3⟩ := b3
            have hlg := hg.lt
            have hbl := Heap.lt_of_get i1
            have d1' := (k3 rd (by omega)).trans d1
            have i1' := (k3 b1 (by omega)).trans i1
            have fit : Fit c (((((c.set o (V.bool true)).set (o + 1) (V.int IntKind.i64 e.f)).set (o + 1 + 1) (V.int IntKind.i64 e.r)).set (o + 1 + 1 + 1) (V.bool false)).set (o + 1 + 1 + 1 + 1) (V.bool false)) o (some ⟨e.f, e.r, false, false⟩) := by
              refine ⟨by simp -implicitDefEqProofs (disch := (first | omega | (simp -implicitDefEqProofs only [szs, ne_eq] <;> omega) | fail)) only [go_sem, Nat.reduceAdd, Nat.reduceSub, Nat.reduceMul, Nat.reduceLT, Nat.reduceMod, Nat.reduceDiv, Nat.reduceEqDiff, Nat.reduceBEq, Nat.reduceLeDiff, ↓reduceIte, reduceCtorEq, Int.reduceAdd, Int.reduceSub, Int.reduceLT, Int.reduceLE, Int.reduceBEq, Int.reduceEq, Int.reduceToNat], by simp -implicitDefEqProofs (disch := (first | omega | (simp -implicitDefEqProofs only [szs, ne_eq] <;> omega) | fail)) only [go_sem, Nat.reduceAdd, Nat.reduceSub, Nat.reduceMul, Nat.reduceLT, Nat.reduceMod, Nat.reduceDiv, Nat.reduceEqDiff, Nat.reduceBEq, Nat.reduceLeDiff, ↓reduceIte, reduceCtorEq, Int.reduceAdd, Int.reduceSub, Int.reduceLT, Int.reduceLE, Int.reduceBEq, Int.reduceEq, Int.reduceToNat, Blk.ro_set], fun i hi => by simp -implicitDefEqProofs (disch := (first | omega | (simp -implicitDefEqProofs only [szs, ne_eq] <;> omega) | fail)) only [go_sem, Nat.reduceAdd, Nat.reduceSub, Nat.reduceMul, Nat.reduceLT, Nat.reduceMod, Nat.reduceDiv, Nat.reduceEqDiff, Nat.reduceBEq, Nat.reduceLeDiff, ↓reduceIte, reduceCtorEq, Int.reduceAdd, Int.reduceSub, Int.reduceLT, Int.reduceLE, Int.reduceBEq, Int.reduceEq, Int.reduceToNat], ⟨by simp -implicitDefEqProofs (disch := (first | omega | (simp -implicitDefEqProofs only [szs, ne_eq] <;> omega) | fail)) only [go_sem, Nat.reduceAdd, Nat.reduceSub, Nat.reduceMul, Nat.reduceLT, Nat.reduceMod, Nat.reduceDiv, Nat.reduceEqDiff, Nat.reduceBEq, Nat.reduceLeDiff, ↓reduceIte, reduceCtorEq, Int.reduceAdd, Int.reduceSub, Int.reduceLT, Int.reduceLE, Int.reduceBEq, Int.reduceEq, Int.reduceToNat]; rfl, by simp -implicitDefEqProofs (disch := (first | omega | (simp -implicitDefEqProofs only [szs, ne_eq] <;> omega) | fail)) only [go_sem, Nat.reduceAdd, Nat.reduceSub, Nat.reduceMul, Nat.reduceLT, Nat.reduceMod, Nat.reduceDiv, Nat.reduceEqDiff, Nat.reduceBEq, Nat.reduceLeDiff, ↓reduceIte, reduceCtorEq, Int.reduceAdd, Int.reduceSub, Int.reduceLT, Int.reduceLE, Int.reduceBEq, Int.reduceEq, Int.reduceToNat]; rfl, ?_, ?_, ?_⟩⟩
              · show Blk.get _ (o + 1 + 1) = _
                simp -implicitDefEqProofs (disch := (first | omega | (simp -implicitDefEqProofs only [szs, ne_eq] <;> omega) | fail)) only [go_sem, Nat.reduceAdd, Nat.reduceSub, Nat.reduceMul, Nat.reduceLT, Nat.reduceMod, Nat.reduceDiv, Nat.reduceEqDiff, Nat.reduceBEq, Nat.reduceLeDiff, ↓reduceIte, reduceCtorEq, Int.reduceAdd, Int.reduceSub, Int.reduceLT, Int.reduceLE, Int.reduceBEq, Int.reduceEq, Int.reduceToNat]; rfl
              · show Blk.get _ (o + 1 + 1 + 1) = _
                simp -implicitDefEqProofs (disch := (first | omega | (simp -implicitDefEqProofs only [szs, ne_eq] <;> omega) | fail)) only [go_sem, Nat.reduceAdd, Nat.reduceSub, Nat.reduceMul, Nat.reduceLT, Nat.reduceMod, Nat.reduceDiv, Nat.reduceEqDiff, Nat.reduceBEq, Nat.reduceLeDiff, ↓reduceIte, reduceCtorEq, Int.reduceAdd, Int.reduceSub, Int.reduceLT, Int.reduceLE, Int.reduceBEq, Int.reduceEq, Int.reduceToNat]; rfl
              · show Blk.get _ (o + 1 + 1 + 1 + 1) = _
                simp -implicitDefEqProofs (disch := (first | omega | (simp -implicitDefEqProofs only [szs, ne_eq] <;> omega) | fail)) only [go_sem, Nat.reduceAdd, Nat.reduceSub, Nat.reduceMul, Nat.reduceLT, Nat.reduceMod, Nat.reduceDiv, Nat.reduceEqDiff, Nat.reduceBEq, Nat.reduceLeDiff, ↓reduceIte, reduceCtorEq, Int.reduceAdd, Int.reduceSub, Int.reduceLT, Int.reduceLE, Int.reduceBEq, Int.reduceEq, Int.reduceToNat]; rfl
            simp -implicitDefEqProofs (disch := (first | omega | (simp -implicitDefEqProofs only [szs, ne_eq] <;> omega) | fail)) only [go_sem, Nat.reduceAdd, Nat.reduceSub, Nat.reduceMul, Nat.reduceLT, Nat.reduceMod, Nat.reduceDiv, Nat.reduceEqDiff, Nat.reduceBEq, Nat.reduceLeDiff, ↓reduceIte, reduceCtorEq, Int.reduceAdd, Int.reduceSub, Int.reduceLT, Int.reduceLE, Int.reduceBEq, Int.reduceEq, Int.reduceToNat, ir35_l0, t0, u1, u2, t8, t9, ↓hl2, p0, p1, hRb1, i1, m1, natV_len, hRrd, d1, d2, d3, l1, l2, l3, l4, l1', l3', e1, f2, f3, f4, ho, ho', x3, d1', i1', b3, w1, w2, w3, hW]
            refine ⟨?_, fun h => by omega, fun _ => .inr (hR _), k - 1, by omega, by omega, fun b hb hne => by rw [w_set_ne (by omega) hne, k3 b (by omega)]; exact hgo b hb hne, p + 1, by omega, by simp, fitR fit (by simp -implicitDefEqProofs (disch := (first | omega | (simp -implicitDefEqProofs only [szs, ne_eq] <;> omega) | fail)) only [go_sem, Nat.reduceAdd, Nat.reduceSub, Nat.reduceMul, Nat.reduceLT, Nat.reduceMod, Nat.reduceDiv, Nat.reduceEqDiff, Nat.reduceBEq, Nat.reduceLeDiff, ↓reduceIte, reduceCtorEq, Int.reduceAdd, Int.reduceSub, Int.reduceLT, Int.reduceLE, Int.reduceBEq, Int.reduceEq, Int.reduceToNat])⟩
            simp only [List.not_mem_nil, or_false, false_or, and_false, false_and, false_implies, implies_true, not_false_eq_true, List.mem_singleton, List.mem_cons, and_true, true_and]
            all_goals (try and_intros)
            all_goals (intros; omega)
          · obtain rfl : p = (pgsL T a 32).length := by omega
            rw [List.take_length, shLs_all] at hg
            rw [hlen] at t9
            obtain ⟨sp, sn, sc, sx, rfl⟩ := ho2.shape
            have hsn : sn = cntU T a 32 := by
              have := hl2 g
              simp only [lenV, Try.underlying76, Option.some.injEq, Prod.mk.injEq, and_true] at this
              omega
            subst hsn
            simp -implicitDefEqProofs (disch := (first | omega | (simp -implicitDefEqProofs only [szs, ne_eq] <;> omega) | fail)) only [go_sem, Nat.reduceAdd, Nat.reduceSub, Nat.reduceMul, Nat.reduceLT, Nat.reduceMod, Nat.reduceDiv, Nat.reduceEqDiff, Nat.reduceBEq, Nat.reduceLeDiff, ↓reduceIte, reduceCtorEq, Int.reduceAdd, Int.reduceSub, Int.reduceLT, Int.reduceLE, Int.reduceBEq, Int.reduceEq, Int.reduceToNat, ir35_l0, t0, u1, u2, t8, t9]
            exact hg
        · have e : shrE T fr to = 7 := by rw [shrE, if_neg (fun h => h.elim (fun h => h ⟨hs1, hs2⟩) hft), if_neg h0]
          rw [shrN, shrT, e]
          have hp : (0 : Int) < (cntU T to.toNat 32 : Nat) := by omega
          simp -implicitDefEqProofs (disch := (first | omega | (simp -implicitDefEqProofs only [szs, ne_eq] <;> omega) | fail)) only [go_sem, Nat.reduceAdd, Nat.reduceSub, Nat.reduceMul, Nat.reduceLT, Nat.reduceMod, Nat.reduceDiv, Nat.reduceEqDiff, Nat.reduceBEq, Nat.reduceLeDiff, ↓reduceIte, reduceCtorEq, Int.reduceAdd, Int.reduceSub, Int.reduceLT, Int.reduceLE, Int.reduceBEq, Int.reduceEq, Int.reduceToNat, undefV, ↓hl1, hp]
          exact hr1
    · have e : shrE T fr to = 2 := if_pos (.inl fun h => hs2 h.2)
      rw [decide_eq_false (fun h => hs2 ((okSP0 to).1 h)), shrN, shrT, e]
      simp -implicitDefEqProofs (disch := (first | omega | (simp -implicitDefEqProofs only [szs, ne_eq] <;> omega) | fail)) only [go_sem, Nat.reduceAdd, Nat.reduceSub, Nat.reduceMul, Nat.reduceLT, Nat.reduceMod, Nat.reduceDiv, Nat.reduceEqDiff, Nat.reduceBEq, Nat.reduceLeDiff, ↓reduceIte, reduceCtorEq, Int.reduceAdd, Int.reduceSub, Int.reduceLT, Int.reduceLE, Int.reduceBEq, Int.reduceEq, Int.reduceToNat, undefV]
      exact hr
  · have e : shrE T fr to = 2 := if_pos (.inl fun h => hs1 h.1)
    rw [decide_eq_false (fun h => hs1 ((okSP0 fr).1 h)), shrN, shrT, e]
    simp -implicitDefEqProofs (disch := (first | omega | (simp -implicitDefEqProofs only [szs, ne_eq] <;> omega) | fail)) only [go_sem, Nat.reduceAdd, Nat.reduceSub, Nat.reduceMul, Nat.reduceLT, Nat.reduceMod, Nat.reduceDiv, Nat.reduceEqDiff, Nat.reduceBEq, Nat.reduceLeDiff, ↓reduceIte, reduceCtorEq, Int.reduceAdd, Int.reduceSub, Int.reduceLT, Int.reduceLE, Int.reduceBEq, Int.reduceEq, Int.reduceToNat, undefV]
    exact hr
set_option maxHeartbeats 4000000 in
theorem rdrop_ok {h : Heap} {R W : Set'} {rd : Nat} {T : Tb} (hr : RefP h rd T) (hR : ∀ b, R b) (hW : W rd) (s : Int) :
    SF Try.prog 37 [.ptr (some (rd, 0)), .int .i64 s] h R W fun v h' => (∃ lv, v = .tuple [lv, .int .i64 (drE s)] ∧ Own h.n h' lv (intV (drL T s)) 3) ∧ RefP h' rd (drT T s) := by
  have hlt := hr.lt
  refine SF.go hm Try.func37 ir37_eq ?_
  simp -implicitDefEqProofs (disch := (first | omega | (simp -implicitDefEqProofs only [szs, ne_eq] <;> omega) | fail)) only [go_sem, Nat.reduceAdd, Nat.reduceSub, Nat.reduceMul, Nat.reduceLT, Nat.reduceMod, Nat.reduceDiv, Nat.reduceEqDiff, Nat.reduceBEq, Nat.reduceLeDiff, ↓reduceIte, reduceCtorEq, Int.reduceAdd, Int.reduceSub, Int.reduceLT, Int.reduceLE, Int.reduceBEq, Int.reduceEq, Int.reduceToNat, ir37]
  refine GCall.of (in_ok s 0) ?_
  rintro v h1 ⟨rfl, rfl⟩
  by_cases hs : okS s
  · rw [decide_eq_true ((okSP0 s).2 hs), drE, drT, drL, if_pos hs, if_pos hs]
    simp -implicitDefEqProofs (disch := (first | omega | (simp -implicitDefEqProofs only [szs, ne_eq] <;> omega) | fail)) only [go_sem, Nat.reduceAdd, Nat.reduceSub, Nat.reduceMul, Nat.reduceLT, Nat.reduceMod, Nat.reduceDiv, Nat.reduceEqDiff, Nat.reduceBEq, Nat.reduceLeDiff, ↓reduceIte, reduceCtorEq, Int.reduceAdd, Int.reduceSub, Int.reduceLT, Int.reduceLE, Int.reduceBEq, Int.reduceEq, Int.reduceToNat, undefV]
    refine GCall.of (rpages_ok hr (fun b => .inr (hR b)) s) ?_
    rintro lv g2 ⟨ho2, n2, k2⟩
    have hr2 := hr.old k2
    rw [pgs, if_pos hs] at ho2 ⊢
    obtain ⟨a, rfl⟩ : ∃ a : Nat, s = a := ⟨s.toNat, by unfold okS at hs; omega⟩
    rw [Int.toNat_natCast] at *
    have l1 : (a : Int) < ((16 : Nat) : Int) := by unfold okS at hs; omega
    have l3 : (0 : Int) ≤ (a : Int) := by omega
    have hl2 := ho2.lr.lenV Try.underlying76
    rw [natV_len] at hl2
    have hlen := pgsL_len T a 32
    have hcl := cntU_le T a 32
    have hlv := ho2.lr
    simp -implicitDefEqProofs (disch := (first | omega | (simp -implicitDefEqProofs only [szs, ne_eq] <;> omega) | fail)) only [go_sem, Nat.reduceAdd, Nat.reduceSub, Nat.reduceMul, Nat.reduceLT, Nat.reduceMod, Nat.reduceDiv, Nat.reduceEqDiff, Nat.reduceBEq, Nat.reduceLeDiff, ↓reduceIte, reduceCtorEq, Int.reduceAdd, Int.reduceSub, Int.reduceLT, Int.reduceLE, Int.reduceBEq, Int.reduceEq, Int.reduceToNat]
    refine GLoop.inv hm (fun k f g => f.mks = [] ∧ f.tm.n = 51 ∧ f.tm.get 0 = some (.ptr (some (rd, 0))) ∧ f.tm.get 1 = some (.int .i64 a) ∧ f.tm.get 7 = some lv ∧ g2.n ≤ g.n ∧ (∀ b, b < g2.n → b ≠ rd → g.get b = g2.get b) ∧ ∃ (p : Nat) (ov : V), p + k = (pgsL T a 32).length ∧ f.tm.get 8 = some (.int .i64 p) ∧ f.tm.get 6 = some ov ∧ Own g2.n g ov (intV (frm T a ((pgsL T a 32).take p))) 3 ∧ RefP g rd (drLs T a ((pgsL T a 32).take p))) (pgsL T a 32).length ?_ ?_
    · exact ⟨rfl, rfl, by simp -implicitDefEqProofs (disch := (first | omega | (simp -implicitDefEqProofs only [szs, ne_eq] <;> omega) | fail)) only [go_sem, Nat.reduceAdd, Nat.reduceSub, Nat.reduceMul, Nat.reduceLT, Nat.reduceMod, Nat.reduceDiv, Nat.reduceEqDiff, Nat.reduceBEq, Nat.reduceLeDiff, ↓reduceIte, reduceCtorEq, Int.reduceAdd, Int.reduceSub, Int.reduceLT, Int.reduceLE, Int.reduceBEq, Int.reduceEq, Int.reduceToNat], by simp -implicitDefEqProofs (disch := (first | omega | (simp -implicitDefEqProofs only [szs, ne_eq] <;> omega) | fail)) only [go_sem, Nat.reduceAdd, Nat.reduceSub, Nat.reduceMul, Nat.reduceLT, Nat.reduceMod, Nat.reduceDiv, Nat.reduceEqDiff, Nat.reduceBEq, Nat.reduceLeDiff, ↓reduceIte, reduceCtorEq, Int.reduceAdd, Int.reduceSub, Int.reduceLT, Int.reduceLE, Int.reduceBEq, Int.reduceEq, Int.reduceToNat], by simp -implicitDefEqProofs (disch := (first | omega | (simp -implicitDefEqProofs only [szs, ne_eq] <;> omega) | fail)) only [go_sem, Nat.reduceAdd, Nat.reduceSub, Nat.reduceMul, Nat.reduceLT, Nat.reduceMod, Nat.reduceDiv, Nat.reduceEqDiff, Nat.reduceBEq, Nat.reduceLeDiff, ↓reduceIte, reduceCtorEq, Int.reduceAdd, Int.reduceSub, Int.reduceLT, Int.reduceLE, Int.reduceBEq, Int.reduceEq, Int.reduceToNat], Nat.le_refl _, fun _ _ _ => rfl, 0, _, by omega, by simp -implicitDefEqProofs (disch := (first | omega | (simp -implicitDefEqProofs only [szs, ne_eq] <;> omega) | fail)) only [go_sem, Nat.reduceAdd, Nat.reduceSub, Nat.reduceMul, Nat.reduceLT, Nat.reduceMod, Nat.reduceDiv, Nat.reduceEqDiff, Nat.reduceBEq, Nat.reduceLeDiff, ↓reduceIte, reduceCtorEq, Int.reduceAdd, Int.reduceSub, Int.reduceLT, Int.reduceLE, Int.reduceBEq, Int.reduceEq, Int.reduceToNat]; rfl, by simp -implicitDefEqProofs (disch := (first | omega | (simp -implicitDefEqProofs only [szs, ne_eq] <;> omega) | fail)) only [go_sem, Nat.reduceAdd, Nat.reduceSub, Nat.reduceMul, Nat.reduceLT, Nat.reduceMod, Nat.reduceDiv, Nat.reduceEqDiff, Nat.reduceBEq, Nat.reduceLeDiff, ↓reduceIte, reduceCtorEq, Int.reduceAdd, Int.reduceSub, Int.reduceLT, Int.reduceLE, Int.reduceBEq, Int.reduceEq, Int.reduceToNat], Own.nil _ _ _, by rw [List.take_zero, drLs_nil]; exact hr2⟩
    rintro k ⟨⟨n', tr⟩, mks⟩ g ⟨hmk, hn', t0, u1, t7, hgn, hgo, p, ov, hpk, t8, t6, hov, hg⟩
    simp only [Tm.get_mk] at hmk hn' t0 u1 t7 t8 t6
    subst hmk hn'
    by_cases hp : p < (pgsL T a 32).length
    · obtain ⟨b1, o1, cap1, ex1, c1, ce1, rfl, hb1, i0, j1, m1⟩ := hlv.get (i := p) (by rw [natV_len]; exact hp)
      have hbl := Heap.lt_of_get i0
      have i1 := (hgo b1 hbl (by omega)).trans i0
      rw [natV_get hp] at m1
      rw [natV_len] at j1
      have hRb1 := hR b1
      obtain ⟨hq, e, hT⟩ : (pgsL T a 32)[p] < 32 ∧ ∃ e, T a (pgsL T a 32)[p] = some e := by
        have := pgsL_mem.1 (List.getElem_mem hp)
        exact ⟨this.1, Option.isSome_iff_exists.1 this.2⟩
      have hnd : ¬ (pgsL T a 32)[p] ∈ (pgsL T a 32).take p := fun hm => by
        obtain ⟨i, hi, he⟩ := List.getElem_of_mem hm
        rw [List.length_take] at hi
        rw [List.getElem_take] at he
        have := (List.getElem_inj (pgsL_nodup T a 32)).1 he
        omega
      have hsn := drLs_snoc T a ((pgsL T a 32).take p) (pgsL T a 32)[p]
      have hfs := frm_snoc T a ((pgsL T a 32).take p) (pgsL T a 32)[p]
      rw [← take_snocN hp] at hsn hfs
      generalize hqe : (pgsL T a 32)[p] = q at *
      obtain ⟨c, d1, d2, d3, d4⟩ := hg.t
      have hcell := d4 a q (by omega) hq
      have hsa : drLs T a ((pgsL T a 32).take p) a q = some e := by unfold drLs; rw [if_neg (fun h => hnd h.2)]; exact hT
      rw [hsa] at hcell
      have l2 : (q : Int) < ((32 : Nat) : Int) := by omega
      have l4 : (0 : Int) ≤ (q : Int) := by omega
      have hb : a * 160 + q * 5 + 5 ≤ 2560 := by omega
      obtain ⟨e0, e1, e2, e3, e4⟩ := hcell
      have p1 : (p : Int) < ((pgsL T a 32).length : Int) := by omega
      have p0 : (0 : Int) ≤ (p : Int) := by omega
      have hRrd := hR rd
      have fitR := fun {h'} {c'} => RefP.fit' (h' := h') (c' := c') (s := (a : Int)) (p := (q : Int)) (x := none) hg d1 ⟨⟨by omega, by omega⟩, by omega, by omega⟩
      rw [Int.toNat_natCast, Int.toNat_natCast, ← hsn] at fitR
      generalize ho : a * 160 + q * 5 = o at *
      have hlg := hg.lt
      have fit : Fit c (((((c.set o (V.bool false)).set (o + 1) (V.int IntKind.i64 0)).set (o + 1 + 1) (V.int IntKind.i64 0)).set (o + 1 + 1 + 1) (V.bool false)).set (o + 1 + 1 + 1 + 1) (V.bool false)) o none := by
        refine ⟨by simp -implicitDefEqProofs (disch := (first | omega | (simp -implicitDefEqProofs only [szs, ne_eq] <;> omega) | fail)) only [go_sem, Nat.reduceAdd, Nat.reduceSub, Nat.reduceMul, Nat.reduceLT, Nat.reduceMod, Nat.reduceDiv, Nat.reduceEqDiff, Nat.reduceBEq, Nat.reduceLeDiff, ↓reduceIte, reduceCtorEq, Int.reduceAdd, Int.reduceSub, Int.reduceLT, Int.reduceLE, Int.reduceBEq, Int.reduceEq, Int.reduceToNat], by simp -implicitDefEqProofs (disch := (first | omega | (simp -implicitDefEqProofs only [szs, ne_eq] <;> omega) | fail)) only [go_sem, Nat.reduceAdd, Nat.reduceSub, Nat.reduceMul, Nat.reduceLT, Nat.reduceMod, Nat.reduceDiv, Nat.reduceEqDiff, Nat.reduceBEq, Nat.reduceLeDiff, ↓reduceIte, reduceCtorEq, Int.reduceAdd, Int.reduceSub, Int.reduceLT, Int.reduceLE, Int.reduceBEq, Int.reduceEq, Int.reduceToNat, Blk.ro_set], fun i hi => by simp -implicitDefEqProofs (disch := (first | omega | (simp -implicitDefEqProofs only [szs, ne_eq] <;> omega) | fail)) only [go_sem, Nat.reduceAdd, Nat.reduceSub, Nat.reduceMul, Nat.reduceLT, Nat.reduceMod, Nat.reduceDiv, Nat.reduceEqDiff, Nat.reduceBEq, Nat.reduceLeDiff, ↓reduceIte, reduceCtorEq, Int.reduceAdd, Int.reduceSub, Int.reduceLT, Int.reduceLE, Int.reduceBEq, Int.reduceEq, Int.reduceToNat], ⟨by simp -implicitDefEqProofs (disch := (first | omega | (simp -implicitDefEqProofs only [szs, ne_eq] <;> omega) | fail)) only [go_sem, Nat.reduceAdd, Nat.reduceSub, Nat.reduceMul, Nat.reduceLT, Nat.reduceMod, Nat.reduceDiv, Nat.reduceEqDiff, Nat.reduceBEq, Nat.reduceLeDiff, ↓reduceIte, reduceCtorEq, Int.reduceAdd, Int.reduceSub, Int.reduceLT, Int.reduceLE, Int.reduceBEq, Int.reduceEq, Int.reduceToNat]; rfl, by simp -implicitDefEqProofs (disch := (first | omega | (simp -implicitDefEqProofs only [szs, ne_eq] <;> omega) | fail)) only [go_sem, Nat.reduceAdd, Nat.reduceSub, Nat.reduceMul, Nat.reduceLT, Nat.reduceMod, Nat.reduceDiv, Nat.reduceEqDiff, Nat.reduceBEq, Nat.reduceLeDiff, ↓reduceIte, reduceCtorEq, Int.reduceAdd, Int.reduceSub, Int.reduceLT, Int.reduceLE, Int.reduceBEq, Int.reduceEq, Int.reduceToNat]; rfl, ?_, ?_, ?_⟩⟩
        · show Blk.get _ (o + 1 + 1) = _
          simp -implicitDefEqProofs (disch := (first | omega | (simp -implicitDefEqProofs only [szs, ne_eq] <;> omega) | fail)) only [go_sem, Nat.reduceAdd, Nat.reduceSub, Nat.reduceMul, Nat.reduceLT, Nat.reduceMod, Nat.reduceDiv, Nat.reduceEqDiff, Nat.reduceBEq, Nat.reduceLeDiff, ↓reduceIte, reduceCtorEq, Int.reduceAdd, Int.reduceSub, Int.reduceLT, Int.reduceLE, Int.reduceBEq, Int.reduceEq, Int.reduceToNat]; rfl
        · show Blk.get _ (o + 1 + 1 + 1) = _
          simp -implicitDefEqProofs (disch := (first | omega | (simp -implicitDefEqProofs only [szs, ne_eq] <;> omega) | fail)) only [go_sem, Nat.reduceAdd, Nat.reduceSub, Nat.reduceMul, Nat.reduceLT, Nat.reduceMod, Nat.reduceDiv, Nat.reduceEqDiff, Nat.reduceBEq, Nat.reduceLeDiff, ↓reduceIte, reduceCtorEq, Int.reduceAdd, Int.reduceSub, Int.reduceLT, Int.reduceLE, Int.reduceBEq, Int.reduceEq, Int.reduceToNat]; rfl
        · show Blk.get _ (o + 1 + 1 + 1 + 1) = _
          simp -implicitDefEqProofs (disch := (first | omega | (simp -implicitDefEqProofs only [szs, ne_eq] <;> omega) | fail)) only [go_sem, Nat.reduceAdd, Nat.reduceSub, Nat.reduceMul, Nat.reduceLT, Nat.reduceMod, Nat.reduceDiv, Nat.reduceEqDiff, Nat.reduceBEq, Nat.reduceLeDiff, ↓reduceIte, reduceCtorEq, Int.reduceAdd, Int.reduceSub, Int.reduceLT, Int.reduceLE, Int.reduceBEq, Int.reduceEq, Int.reduceToNat]; rfl
      have hff : Ce.f (some e) = e.f := rfl
      obtain ⟨v2, g6, r2, w2, hap, o2, m2, kk2, hw2, kk, hty⟩ := app_own (n0 := g2.n) (h := g.push (.cells (Blk.of [.int .i64 e.f]) 3)) (v := ov) (x := .slice (some (g.n, 0)) 1 1 true) (l := intV (frm T a ((pgsL T a 32).take p))) (news := [.int .i64 e.f]) (rs := [g.n]) (e := 3) (bytes := 8) (hov.old fun b hb => by rw [w_push_ne (by omega)]) (by simp; omega) rfl (first_one (e := 3) (w_push_eq rfl _)) rfl (by simp only [List.length_cons, List.length_nil, intV_len, frm_len, List.length_take]; omega) (by simp only [List.length_cons, List.length_nil, intV_len, frm_len, List.length_take]; omega)
      have hcv := o2.lr.cells
      have hon := o2.lr.one
      have hr2 : allB (fun b => h1.n ≤ b ∨ R b) r2 := allB_of fun b _ => .inr (hR b)
      have hw2' : allB (fun b => h1.n ≤ b ∨ W b) w2 := allB_of fun b hb => .inl (by have := hw2 b hb; omega)
      have m2' : g.n + 1 ≤ g6.n := by simpa using m2
      have kg : ∀ b c' ty, g.get b = some (.cells c' ty) → ty ≠ 3 → g6.get b = some (.cells c' ty) := fun b c' ty hb hne => by
        rw [kk b (by simp; have := Heap.lt_of_get hb; omega) (fun hm => ?_), w_push_ne (by have := Heap.lt_of_get hb; omega)]
        · exact hb
        · obtain ⟨c2, e2⟩ := hty b hm
          rw [w_push_ne (by have := Heap.lt_of_get hb; omega), hb] at e2
          cases e2
          exact hne rfl
      have d1' := kg rd _ _ d1 (by decide)
      have i1' : g6.get b1 = some (.cells c1 ce1) := by rw [kk b1 (by simp; omega) (fun hm => by have := hw2 b1 hm; omega), w_push_ne (by omega)]; exact i1
      simp -implicitDefEqProofs (disch := (first | omega | (simp -implicitDefEqProofs only [szs, ne_eq] <;> omega) | fail)) only [go_sem, Nat.reduceAdd, Nat.reduceSub, Nat.reduceMul, Nat.reduceLT, Nat.reduceMod, Nat.reduceDiv, Nat.reduceEqDiff, Nat.reduceBEq, Nat.reduceLeDiff, ↓reduceIte, reduceCtorEq, Int.reduceAdd, Int.reduceSub, Int.reduceLT, Int.reduceLE, Int.reduceBEq, Int.reduceEq, Int.reduceToNat, ir37_l0, t0, u1, t7, t8, t6, ↓hl2, p0, p1, hRb1, i1, m1, natV_len, hRrd, d1, d2, d3, l1, l2, l3, l4, e1, ho, hff, appendV_of ap_76, hap, hr2, hw2', ↓hcv, ↓hon, d1', i1', hW]
      refine ⟨?_, ⟨fun b _ hm => .inr (hR b), fun b _ hm => .inl (by have := hw2 b hm; omega)⟩, k - 1, by omega, by omega, fun b hb hne => by rw [w_set_ne (by omega) hne, kk2 b (by omega), w_push_ne (by omega)]; exact hgo b hb hne, p + 1, v2, by omega, by simp, rfl, ?_, fitR fit (by simp -implicitDefEqProofs (disch := (first | omega | (simp -implicitDefEqProofs only [szs, ne_eq] <;> omega) | fail)) only [go_sem, Nat.reduceAdd, Nat.reduceSub, Nat.reduceMul, Nat.reduceLT, Nat.reduceMod, Nat.reduceDiv, Nat.reduceEqDiff, Nat.reduceBEq, Nat.reduceLeDiff, ↓reduceIte, reduceCtorEq, Int.reduceAdd, Int.reduceSub, Int.reduceLT, Int.reduceLE, Int.reduceBEq, Int.reduceEq, Int.reduceToNat])⟩
      · simp only [List.not_mem_nil, or_false, false_or, and_false, false_and, false_implies, implies_true, not_false_eq_true, List.mem_singleton, List.mem_cons, and_true, true_and]
      · rw [hfs, intV_snoc, hT]
        exact o2.keep fun b' c' e' => by
          rw [w_set_ne (by omega) (fun e2 => by rw [e2, d1'] at e'; simp at e')]
          exact e'
    · obtain rfl : p = (pgsL T a 32).length := by omega
      rw [List.take_length, drLs_all] at hg
      rw [List.take_length] at hov
      simp -implicitDefEqProofs (disch := (first | omega | (simp -implicitDefEqProofs only [szs, ne_eq] <;> omega) | fail)) only [go_sem, Nat.reduceAdd, Nat.reduceSub, Nat.reduceMul, Nat.reduceLT, Nat.reduceMod, Nat.reduceDiv, Nat.reduceEqDiff, Nat.reduceBEq, Nat.reduceLeDiff, ↓reduceIte, reduceCtorEq, Int.reduceAdd, Int.reduceSub, Int.reduceLT, Int.reduceLE, Int.reduceBEq, Int.reduceEq, Int.reduceToNat, ir37_l0, t0, u1, t7, t8, t6, ↓hl2]
      exact ⟨⟨ov, rfl, hov.mono (by omega)⟩, hg⟩
  · rw [decide_eq_false (fun h => hs ((okSP0 s).1 h)), drE, drT, drL, pgs, if_neg hs, if_neg hs, if_neg hs]
    simp -implicitDefEqProofs (disch := (first | omega | (simp -implicitDefEqProofs only [szs, ne_eq] <;> omega) | fail)) only [go_sem, Nat.reduceAdd, Nat.reduceSub, Nat.reduceMul, Nat.reduceLT, Nat.reduceMod, Nat.reduceDiv, Nat.reduceEqDiff, Nat.reduceBEq, Nat.reduceLeDiff, ↓reduceIte, reduceCtorEq, Int.reduceAdd, Int.reduceSub, Int.reduceLT, Int.reduceLE, Int.reduceBEq, Int.reduceEq, Int.reduceToNat, undefV]
    exact ⟨⟨_, rfl, Own.nil _ _ _⟩, hr⟩
end Go.Proofs.Ytkfhdaimememiaa
