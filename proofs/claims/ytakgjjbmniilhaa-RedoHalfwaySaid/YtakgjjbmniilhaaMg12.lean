/- Crash, the law's: what is kept of each sector. -/
import Derived.Test.YtakgjjbmniilhaaMg11
import Derived.Test.YtakgjjbmniilhaaV4
import Derived.Test.YtakgjjbmniilhaaIrR
set_option linter.unusedVariables false
set_option linter.unusedSimpArgs false
set_option linter.unusedSimpArgs false
set_option maxRecDepth 100000
set_option linter.unusedVariables false
set_option linter.unusedSimpArgs false
namespace Go.Proofs.Ytakgjjbmniilhaa
open Go Go.Vm
attribute [-go_sem] sz_101
variable {h g : Heap} {R W M N : Set'} {bd lp fr ct : Nat} {D : DS} {G : LgS}
def ksD (D : DS) (i : Nat) : Int := ((D.dirty.getD i 0 : Nat) : Int)
def kwD (D : DS) (kl : List Int) (i : Nat) : Int := (((kl.getD i 0).tmod (((D.pe (D.dirty.getD i 0)).length : Int) + 1)).natAbs : Int)
def kpL (D : DS) (kl : List Int) : Nat → List V
  | 0 => []
  | p + 1 => if p < kl.length then kpL D kl p ++ [.int .i64 (ksD D p), .int .i64 (kwD D kl p)] else kpL D kl p
theorem ap_125 : apT Try.prog 125 125 = some (127, 2, 16) := by kernel_rfl
noncomputable def lvC (tr : Tr V) (m : Nat) : Loopv := ⟨.ready, none, ⟨75, tr⟩, [25, 26], (rc31 0).1, (rc31 0).2, m⟩
structure CrI (h g : Heap) (y b10 b11 : Nat) (D : DS) (kl : List Int) (lv : Loopv) (p : Nat) : Prop where
  n : h.n ≤ g.n
  k : ∀ b, b < h.n → b ≠ y → b ≠ b10 → b ≠ b11 → g.get b = h.get b
  y : g.get y = some (.loop lv)
  c : ∃ c, g.get b11 = some (.cells c 3) ∧ c.size = 1 ∧ c.ro = false ∧ c.get 0 = .int .i64 (p : Int)
  l : ∃ c v, g.get b10 = some (.cells c 125) ∧ c.size = 1 ∧ c.ro = false ∧ c.get 0 = v ∧ OwnS 2 h.n g v (min p kl.length) (kpL D kl p) 127
set_option maxHeartbeats 8000000 in
theorem rnd31 {y m b5 b10 b11 p s : Nat} {tr : Tr V} {v : V} {kl : List Int} {S : Set'} (hI : CrI h g y b10 b11 D kl (lvC tr m) p) (hlo : y < h.n ∧ b10 < h.n ∧ b11 < h.n ∧ b5 < h.n ∧ b5 ≠ y ∧ b5 ≠ b10 ∧ b5 ≠ b11 ∧ b10 ≠ y ∧ b11 ≠ y ∧ b10 ≠ b11)
    (t5 : tr.get 5 = some (.ptr (some (b5, 0)))) (t10 : tr.get 10 = some (.ptr (some (b10, 0)))) (t11 : tr.get 11 = some (.ptr (some (b11, 0))))
    (c5 : ∃ c, h.get b5 = some (.cells c 66) ∧ c.size = 1 ∧ c.get 0 = v) (hv : LR h S v (kl.map (V.int .i64))) (hS : ∀ k, S k → k < h.n → k ≠ y ∧ k ≠ b10 ∧ k ≠ b11) (hkl : ∀ k ∈ kl, -9223372036854775808 ≤ k ∧ k ≤ 9223372036854775807)
    (hs : D.dirty[p]? = some s) (hpe : (D.pe s).length < 1000000000) (hpn : p ≤ 5000) :
    SY ⟨Try.prog, true⟩ y [.int .i64 (s : Int), .int .i64 ((D.pe s).length : Int)] g (fun _ => True) (fun b => h.n ≤ b ∨ (b = y ∨ b = b10 ∨ b = b11)) (fun z g' => z = .bool true ∧ CrI h g' y b10 b11 D kl (lvC tr m) (p + 1) ∧ Keep3 h.n g g') := by
  obtain ⟨i1, i2, i3, ⟨c11, i4, i5, i6, i7⟩, c10, lv, i8, i9, i10, i11, i12⟩ := hI
  have hlt := Heap.lt_of_get i3
  obtain ⟨hy, h10, h11, h5, n5y, n510, n511, n10y, n11y, n1011⟩ := hlo
  simp only [lvC] at i3 ⊢
  refine SY.go Go.Proofs.Ytakgjjbmniilhaa.hm i3 trivial (.inr (.inl rfl)) rfl ir31_a0_eq ir31_b0_eq ?_
  simp -implicitDefEqProofs (disch := (first | omega | (simp -implicitDefEqProofs only [szs, ne_eq] <;> omega) | fail)) only [go_sem, seval, ↓reduceIte, reduceCtorEq, ir31_a0]
  refine ⟨_, i3, rfl, ?_⟩
  obtain ⟨G1, eG⟩ : ∃ G1, G1 = g.set y (.loop ⟨.busy, none, ⟨75, tr⟩, [25, 26], (rc31 0).1, (rc31 0).2, m⟩) := ⟨_, rfl⟩
  rw [← eG]
  have nG : G1.n = g.n := by rw [eG]; simp
  have kG : ∀ b, b ≠ y → G1.get b = g.get b := fun b h1 => by rw [eG, w_set_ne hlt h1]
  have lG : G1.get y = some (.loop ⟨.busy, none, ⟨75, tr⟩, [25, 26], (rc31 0).1, (rc31 0).2, m⟩) := by rw [eG]; exact w_set_eq hlt rfl _
  clear eG
  obtain ⟨x5, a5, s5, v5⟩ := c5
  have A5 := ((kG b5 n5y).trans (i2 b5 h5 n5y n510 n511)).trans a5
  have A10 := (kG b10 n10y).trans i8
  have A11 := (kG b11 n11y).trans i4
  have hvg : LR G1 S v (kl.map (V.int .i64)) := hv.same fun b hb hbn => by
    obtain ⟨q1, q2, q3⟩ := hS b hb hbn
    rw [kG b q1, i2 b hbn q1 q2 q3]
  have hlen := hvg.lenV Try.underlying66
  rw [List.length_map] at hlen
  have hsd : D.dirty.getD p 0 = s := by rw [List.getD_eq_getElem?_getD, hs]; rfl
  have e1 : (p : Int) + 1 = ((p + 1 : Nat) : Int) := by omega
  by_cases hp : p < kl.length
  rotate_left
  · have hc : ¬ (p : Int) < (kl.length : Int) := by omega
    simp -implicitDefEqProofs (disch := (first | omega | (simp -implicitDefEqProofs only [szs, ne_eq] <;> omega) | fail)) only [go_sem, seval, ↓reduceIte, reduceCtorEq, ir31_b0, undefV, t5, t10, t11, A5, s5, v5, A11, i5, i6, i7, ↓hlen, hc, e1]
    have l11 := Heap.lt_of_get A11
    have hln := Heap.lt_of_get lG
    refine ⟨_, lG, rfl, ⟨by simp only [Heap.n_set]; omega, fun b h1 h2 h3 h4 => ?_, w_set_eq (by simp only [Heap.n_set]; exact hln) rfl _, ⟨c11.set 0 (.int .i64 ((p + 1 : Nat) : Int)), ?_, by simp only [Blk.size_set]; exact i5, by simp only [Blk.ro_set]; exact i6, by rw [Blk.get_set, if_pos rfl]⟩, c10, lv, ?_, i9, i10, i11, ?_⟩, fun b c hb1 hb2 => ?_⟩
    · rw [w_set_ne (by simp only [Heap.n_set]; exact hln) h2, w_set_ne l11 h4, kG b h2, i2 b h1 h2 h3 h4]
    · rw [w_set_ne (by simp only [Heap.n_set]; exact hln) n11y]; exact w_set_eq l11 rfl _
    · rw [w_set_ne (by simp only [Heap.n_set]; exact hln) n10y, w_set_ne l11 n1011]; exact A10
    · have e2 : kpL D kl (p + 1) = kpL D kl p := by rw [kpL, if_neg hp]
      rw [e2, show min (p + 1) kl.length = min p kl.length by omega]
      exact i12.keep fun b c hb _ => by
        rw [w_set_ne (by simp only [Heap.n_set]; exact hln) (fun e => by rw [e, i3] at hb; cases hb), w_set_ne l11 (fun e => by rw [e, i4] at hb; cases hb), kG b (fun e => by rw [e, i3] at hb; cases hb)]; exact hb
    · rw [w_set_ne (by simp only [Heap.n_set]; exact hln) (by omega), w_set_ne l11 (by omega), kG b (by omega)]
  have hc : (p : Int) < (kl.length : Int) := by omega
  have hc0 : (0 : Int) ≤ (p : Int) := by omega
  obtain ⟨b, o, cap, ex, cc, ce, rfl, hSb, hb, hbs, hbg⟩ := hvg.get (i := p) (by rw [List.length_map]; exact hp)
  rw [List.length_map] at hbs
  rw [List.getD_eq_getElem?_getD, List.getElem?_map, List.getElem?_eq_getElem hp, Option.map_some, Option.getD_some] at hbg
  have hos : o + p < cc.size := by omega
  have hne : ¬ (((D.pe s).length : Int) + 1 = 0) := by omega
  obtain ⟨tv, etv⟩ : ∃ tv : Int, tv = kl[p].tmod (((D.pe s).length : Int) + 1) := ⟨_, rfl⟩
  have htv : tv.natAbs ≤ (D.pe s).length := by
    have h1 : (tv.natAbs : Int) < ((D.pe s).length : Int) + 1 := by
      have := Int.natAbs_tmod kl[p] (((D.pe s).length : Int) + 1)
      rw [← etv] at this
      rw [this]
      have h2 : (((D.pe s).length : Int) + 1).natAbs = (D.pe s).length + 1 := by omega
      rw [h2]
      have := Nat.mod_lt kl[p].natAbs (show 0 < (D.pe s).length + 1 by omega)
      omega
    omega
  have hkw : kwD D kl p = (tv.natAbs : Int) := by
    unfold kwD
    rw [hsd, List.getD_eq_getElem?_getD, List.getElem?_eq_getElem hp, Option.getD_some, ← etv]
  have hks : ksD D p = (s : Int) := by unfold ksD; rw [hsd]
  obtain ⟨v', g4, r4, w4, hap, o4, n4, k4, hw4, kk4, ht4, hr4⟩ := app_ownS (n0 := h.n) (h := G1.push (.cells (Blk.of [.int .i64 (s : Int), .int .i64 (tv.natAbs : Int)]) 127)) (v := lv) (x := .slice (some (G1.n, 0)) 1 1 true) (m := 1) (news := [.int .i64 (s : Int), .int .i64 (tv.natAbs : Int)]) (rs := [G1.n]) (bytes := 16) (i12.keep fun b c hb _ => by
    rw [w_push_ne (by have := Heap.lt_of_get hb; omega), kG b (fun e => by rw [e, i3] at hb; cases hb)]; exact hb) (by rw [Heap.n_push]; omega) rfl (firstS (w_push_eq rfl _) (Nat.le_refl _) rfl) rfl rfl (by omega) (by omega) (by omega)
  have h4o := o4.lr.one
  have q3 : allB (fun x => True) r4 := allB_of fun b _ => trivial
  have q4 : allB (fun b => h.n ≤ b ∨ b = y ∨ b = b10 ∨ b = b11) w4 := allB_of fun b hb => .inl (hw4 b hb)
  have kg4 : ∀ b o, b < G1.n → G1.get b = some o → (∀ c, o ≠ .cells c 127) → g4.get b = some o := fun b o hb e hno => by
    rw [kk4 b (by rw [Heap.n_push]; omega) (fun hw => by
      obtain ⟨c', e'⟩ := (ht4 b hw).2
      rw [w_push_ne (by omega), e] at e'
      exact hno c' (Option.some.inj e')), w_push_ne (by omega), e]
  have B10 := kg4 b10 _ (Heap.lt_of_get A10) A10 (fun c e => by cases e)
  have B11 := kg4 b11 _ (Heap.lt_of_get A11) A11 (fun c e => by cases e)
  have By := kg4 y _ (Heap.lt_of_get lG) lG (fun c e => by cases e)
  have l10 := Heap.lt_of_get B10
  have l11 := Heap.lt_of_get B11
  have ly := Heap.lt_of_get By
  have hol := i12.lr.one
  have h4c := o4.lr.cells
  rw [Heap.n_push] at n4
  have fin : ∀ (lv2 : Loopv), CrI h (((g4.set b10 (.cells (c10.set 0 v') 125)).set b11 (.cells (c11.set 0 (.int .i64 ((p + 1 : Nat) : Int))) 3)).set y (.loop lv2)) y b10 b11 D kl lv2 (p + 1) ∧ Keep3 h.n g (((g4.set b10 (.cells (c10.set 0 v') 125)).set b11 (.cells (c11.set 0 (.int .i64 ((p + 1 : Nat) : Int))) 3)).set y (.loop lv2)) := fun lv2 => by
    have kz : ∀ b, b ≠ y → b ≠ b10 → b ≠ b11 → (((g4.set b10 (.cells (c10.set 0 v') 125)).set b11 (.cells (c11.set 0 (.int .i64 ((p + 1 : Nat) : Int))) 3)).set y (.loop lv2)).get b = g4.get b := fun b h1 h2 h3 => by
      rw [w_set_ne (by simp only [Heap.n_set]; exact ly) h1, w_set_ne (by simp only [Heap.n_set]; exact l11) h3, w_set_ne l10 h2]
    refine ⟨⟨by simp only [Heap.n_set]; omega, fun b h1 h2 h3 h4 => ?_, w_set_eq (by simp only [Heap.n_set]; exact ly) rfl _, ⟨c11.set 0 (.int .i64 ((p + 1 : Nat) : Int)), ?_, by simp only [Blk.size_set]; exact i5, by simp only [Blk.ro_set]; exact i6, by rw [Blk.get_set, if_pos rfl]⟩, c10.set 0 v', v', ?_, by simp only [Blk.size_set]; exact i9, by simp only [Blk.ro_set]; exact i10, by rw [Blk.get_set, if_pos rfl], ?_⟩, fun b c hb1 hb2 => ?_⟩
    · rw [kz b h2 h3 h4, k4 b h1, w_push_ne (by omega), kG b h2, i2 b h1 h2 h3 h4]
    · rw [w_set_ne (by simp only [Heap.n_set]; exact ly) n11y]; exact w_set_eq (by simp only [Heap.n_set]; exact l11) rfl _
    · rw [w_set_ne (by simp only [Heap.n_set]; exact ly) n10y, w_set_ne (by simp only [Heap.n_set]; exact l11) n1011]; exact w_set_eq l10 rfl _
    · have e2 : kpL D kl (p + 1) = kpL D kl p ++ [.int .i64 (s : Int), .int .i64 (tv.natAbs : Int)] := by rw [kpL, if_pos hp, hks, hkw]
      rw [e2, show min (p + 1) kl.length = min p kl.length + 1 by omega]
      exact o4.keep fun b c hb _ => by
        rw [kz b (fun e => by rw [e, By] at hb; cases hb) (fun e => by rw [e, B10] at hb; cases hb) (fun e => by rw [e, B11] at hb; cases hb)]; exact hb
    · have hb3 : G1.get b = some (.cells c 3) := (kG b (by omega)).trans hb2
      rw [kz b (by omega) (by omega) (by omega), kg4 b _ (Heap.lt_of_get hb3) hb3 (fun c e => by cases e), hb2]
  by_cases h0 : tv < 0
  · have en : IntKind.i64.wrap (0 - tv) = (tv.natAbs : Int) := by rw [IntWalk.i64_in] <;> omega
    simp -implicitDefEqProofs (disch := (first | omega | (simp -implicitDefEqProofs only [szs, ne_eq] <;> omega) | fail)) only [go_sem, seval, ↓reduceIte, reduceCtorEq, ir31_b0, undefV, t5, t10, t11, A5, s5, v5, A11, i5, i6, i7, ↓hlen, hc, hc0, hb, hbg, hos, List.length_map, hne, ← etv, h0, en, A10, i9, i10, i11, appendV_of ap_125, ↓hol, hap, q3, q4, ↓h4o, ↓h4c, B10, B11, n1011, e1]
    exact ⟨_, By, rfl, fin _⟩
  · have en : tv = (tv.natAbs : Int) := by omega
    have h0' : ¬ ((tv.natAbs : Int) < 0) := by omega
    have etv' : kl[p].tmod (((D.pe s).length : Int) + 1) = (tv.natAbs : Int) := by rw [← etv]; exact en
    simp -implicitDefEqProofs (disch := (first | omega | (simp -implicitDefEqProofs only [szs, ne_eq] <;> omega) | fail)) only [go_sem, seval, ↓reduceIte, reduceCtorEq, ir31_b0, undefV, t5, t10, t11, A5, s5, v5, A11, i5, i6, i7, ↓hlen, hc, hc0, hb, hbg, hos, List.length_map, hne, etv', h0', A10, i9, i10, i11, appendV_of ap_125, ↓hol, hap, q3, q4, ↓h4o, ↓h4c, B10, B11, n1011, e1]
    exact ⟨_, By, rfl, fin _⟩
end Go.Proofs.Ytakgjjbmniilhaa
set_option maxRecDepth 100000
set_option linter.unusedVariables false
set_option linter.unusedSimpArgs false
namespace Go.Proofs.Ytakgjjbmniilhaa
open Go Go.Vm
attribute [-go_sem] sz_101
variable {h g : Heap} {R W M N : Set'} {bd lp fr ct : Nat} {D : DS} {G : LgS}
theorem kpL_get (D : DS) (kl : List Int) : ∀ (p : Nat), (kpL D kl p).length = min p kl.length * 2 ∧ ∀ i, i < min p kl.length → (kpL D kl p)[i * 2]? = some (.int .i64 (ksD D i)) ∧ (kpL D kl p)[i * 2 + 1]? = some (.int .i64 (kwD D kl i))
  | 0 => ⟨by simp [kpL], fun i hi => by omega⟩
  | p + 1 => by
    obtain ⟨h1, h2⟩ := kpL_get D kl p
    by_cases hp : p < kl.length
    · rw [kpL, if_pos hp]
      refine ⟨by rw [List.length_append, h1]; simp only [List.length_cons, List.length_nil]; omega, fun i hi => ?_⟩
      by_cases e : i = p
      · subst e
        have e1 : i * 2 = (kpL D kl i).length := by rw [h1]; omega
        rw [List.getElem?_append_right (by omega), List.getElem?_append_right (by omega), e1, Nat.sub_self, show (kpL D kl i).length + 1 - (kpL D kl i).length = 1 by omega]
        exact ⟨rfl, rfl⟩
      · obtain ⟨q1, q2⟩ := h2 i (by omega)
        rw [List.getElem?_append_left (by omega), List.getElem?_append_left (by omega)]
        exact ⟨q1, q2⟩
    · rw [kpL, if_neg hp]
      refine ⟨by rw [h1]; omega, fun i hi => h2 i (by omega)⟩
theorem keep_own {n0 p : Nat} {v : V} {kl : List Int} (ho : OwnS 2 n0 g v (min p kl.length) (kpL D kl p) 127) (hp : p ≤ 1000000) : KeepV g (fun b => n0 ≤ b) v (min p kl.length) (ksD D) (kwD D kl) := by
  obtain ⟨h1, h2⟩ := kpL_get D kl p
  refine ⟨by omega, ?_⟩
  obtain ⟨_, ⟨h0, rfl | ⟨b, c, rfl, hb0, hb, hr⟩⟩ | ⟨b, x, c, h0, rfl, hb0, hb, hs, hr, hg⟩⟩ := ho
  · exact .inl ⟨h0, .inl rfl⟩
  · rw [h0]
    exact .inr ⟨b, 0, 0, true, c, _, rfl, hb0, hb, by omega, fun i hi => by omega⟩
  · refine .inr ⟨b, 0, _, x, c, _, rfl, hb0, hb, by omega, fun i hi => ?_⟩
    obtain ⟨q1, q2⟩ := h2 i hi
    have g1 := Blk.gets_get c (min p kl.length * 2) 0 (i * 2) (by omega)
    have g2 := Blk.gets_get c (min p kl.length * 2) 0 (i * 2 + 1) (by omega)
    rw [hg, q1] at g1
    rw [hg, q2] at g2
    exact ⟨(Option.some.inj g1).symm, (Option.some.inj g2).symm⟩
def crF (D : DS) (kl : List Int) : Nat → List V := (crashF D (ksD D) (kwD D kl) (min D.dirty.length kl.length)).getD D.fl
theorem crashF_ok (D : DS) (kl : List Int) : ∀ m, m ≤ min D.dirty.length kl.length → ∃ f, crashF D (ksD D) (kwD D kl) m = some f ∧ ∀ s, f s = D.fl s ∨ f s ∈ D.pe s
  | 0, _ => ⟨D.fl, rfl, fun s => .inl rfl⟩
  | m + 1, hm => by
    obtain ⟨f, h1, h2⟩ := crashF_ok D kl m (by omega)
    have hmd : m < D.dirty.length := by omega
    have e1 : D.dirty.getD m 0 = D.dirty[m] := by rw [List.getD_eq_getElem?_getD, List.getElem?_eq_getElem hmd]; rfl
    have hs := mem_dirty.1 (List.getElem_mem hmd)
    have hks : ksD D m = ((D.dirty[m] : Nat) : Int) := by unfold ksD; rw [e1]
    have hkw : kwD D kl m ≤ (D.pe D.dirty[m]).length := by
      unfold kwD
      rw [e1]
      have := Int.natAbs_tmod (kl.getD m 0) (((D.pe D.dirty[m]).length : Int) + 1)
      rw [this]
      have h3 : (((D.pe D.dirty[m]).length : Int) + 1).natAbs = (D.pe D.dirty[m]).length + 1 := by omega
      rw [h3]
      have := Nat.mod_lt (kl.getD m 0).natAbs (show 0 < (D.pe D.dirty[m]).length + 1 by omega)
      omega
    have hk0 : 0 ≤ kwD D kl m := by unfold kwD; omega
    have hok : keepOk D (ksD D) (kwD D kl) m := by
      unfold keepOk
      rw [hks, Int.toNat_natCast]
      refine ⟨⟨by omega, by omega⟩, hk0, hkw, fun j hj e => ?_⟩
      have hjd : j < D.dirty.length := by omega
      have hj1 : ksD D j = ((D.dirty[j] : Nat) : Int) := by unfold ksD; rw [List.getD_eq_getElem?_getD, List.getElem?_eq_getElem hjd]; rfl
      rw [hj1] at e
      have hnd : D.dirty.Nodup := (List.nodup_range).filter _
      exact List.pairwise_iff_getElem.1 hnd j m hjd hmd hj (by omega)
    refine ⟨_, by simp only [crashF, h1]; rw [if_pos hok], fun s => ?_⟩
    by_cases he : (s : Int) = ksD D m ∧ 0 < kwD D kl m
    · simp only [if_pos he]
      right
      have hsd : s = D.dirty[m] := by have := he.1; rw [hks] at this; omega
      subst hsd
      rw [List.getD_eq_getElem?_getD, List.getElem?_eq_getElem (by omega)]
      exact List.getElem_mem _
    · simp only [if_neg he]
      exact h2 s
theorem crF_ok (D : DS) (kl : List Int) : crashF D (ksD D) (kwD D kl) (min D.dirty.length kl.length) = some (crF D kl) ∧ ∀ s, crF D kl s = D.fl s ∨ crF D kl s ∈ D.pe s := by
  obtain ⟨f, h1, h2⟩ := crashF_ok D kl _ (Nat.le_refl _)
  unfold crF
  rw [h1]
  exact ⟨rfl, h2⟩
set_option maxHeartbeats 8000000 in
theorem cr_rg {g : Heap} {Q : Ex → Fr → Heap → Prop} {t : List It} {b1 b5 b10 b11 : Nat} {v : V} {kl : List Int} {S : Set'} {tr : Tr V} (hR : ∀ b, R b) (hW : ∀ k, k = b10 ∨ k = b11 ∨ g.n ≤ k → W k) (hx : DkX g M bd D) (hM : ∀ k, M k → k ≠ b10 ∧ k ≠ b11)
    (t5 : tr.get 5 = some (.ptr (some (b5, 0)))) (t10 : tr.get 10 = some (.ptr (some (b10, 0)))) (t11 : tr.get 11 = some (.ptr (some (b11, 0)))) (t24 : tr.get 24 = some (.func 85 [] [.ptr (some (b1, 0))]))
    (c1 : g.get b1 = some (.cells (Blk.of [.ptr (some (bd, 0))]) 24)) (c5 : ∃ c, g.get b5 = some (.cells c 66) ∧ c.size = 1 ∧ c.get 0 = v) (c10 : ∃ c, g.get b10 = some (.cells c 125) ∧ c.size = 1 ∧ c.ro = false ∧ c.get 0 = .slice none 0 0 true) (c11 : ∃ c, g.get b11 = some (.cells c 3) ∧ c.size = 1 ∧ c.ro = false ∧ c.get 0 = .int .i64 0)
    (hne : b1 ≠ b10 ∧ b1 ≠ b11 ∧ b5 ≠ b10 ∧ b5 ≠ b11 ∧ b10 ≠ b11) (hv : LR g S v (kl.map (V.int .i64))) (hS : ∀ k, S k → k ≠ b10 ∧ k ≠ b11 ∧ k < g.n) (hkl : ∀ k ∈ kl, -9223372036854775808 ≤ k ∧ k ≤ 9223372036854775807) (few : ∀ s, (D.pe s).length < 1000000000)
    (hk : ∀ g3 m n0 lv, g.n ≤ n0 → (∃ c, g3.get b10 = some (.cells c 125) ∧ c.size = 1 ∧ c.ro = false ∧ c.get 0 = lv) → OwnS 2 n0 g3 lv (min D.dirty.length kl.length) (kpL D kl D.dirty.length) 127 → g.n ≤ m → g3.get m = some (.deferred true) → g.n ≤ g3.n → (∀ b, b < g.n → b ≠ b10 → b ≠ b11 → g3.get b = g.get b) → GO ⟨Try.prog, true⟩ R W none Q t ⟨⟨75, tr⟩, [m]⟩ g3) :
    GRange ⟨Try.prog, true⟩ R W none Q (.tmp 24) #[25, 26] (rc31 0).1 (rc31 0).2 (.blk 0 :: t) ⟨⟨75, tr⟩, []⟩ g := by
  have hp := hx.pos
  refine GRange.outer (k := 85) (xs := []) (ys := [.ptr (some (b1, 0))]) (by simp -implicitDefEqProofs (disch := (first | omega | (simp -implicitDefEqProofs only [szs, ne_eq] <;> omega) | fail)) only [go_sem, seval, ↓reduceIte, reduceCtorEq, t24]) ca_85 ?_
  obtain ⟨hA, eA⟩ : ∃ hA, hA = (g.push (.deferred true)).push (.loop (lvC tr g.n)) := ⟨_, rfl⟩
  rw [show (([] ++ [V.yield (g.n + 1)]) ++ [.ptr (some (b1, 0))] : List V) = [V.yield (g.n + 1), .ptr (some (b1, 0))] from rfl, show (#[25, 26] : Array Tmp).toList = [25, 26] from rfl, show (⟨.ready, none, ⟨75, tr⟩, [25, 26], (rc31 0).1, (rc31 0).2, g.n⟩ : Loopv) = lvC tr g.n from rfl, ← eA]
  have nA : hA.n = g.n + 2 := by rw [eA]; simp
  have kA : ∀ b, b < g.n → hA.get b = g.get b := fun b hb => by rw [eA, w_push_ne (by simp; omega), w_push_ne (by omega)]
  have mA : hA.get g.n = some (.deferred true) := by rw [eA, w_push_ne (by simp)]; exact w_push_eq rfl _
  have lA : hA.get (g.n + 1) = some (.loop (lvC tr g.n)) := by rw [eA]; exact w_push_eq (by simp) _
  clear eA
  obtain ⟨x5, p5, q5⟩ := c5
  obtain ⟨x10, p10, s10, r10, v10⟩ := c10
  obtain ⟨x11, p11, q11⟩ := c11
  have l1 := Heap.lt_of_get c1
  have l5 := Heap.lt_of_get p5
  have l10 := Heap.lt_of_get p10
  have l11 := Heap.lt_of_get p11
  obtain ⟨n1, n2, n3, n4, n5⟩ := hne
  have hxA : DkX hA M bd D := hx.old (by omega) kA
  obtain ⟨⟨L, hd, hf⟩, hMlt⟩ := hxA
  have hMg := hx.lt
  have hdl := dirty_len D
  have I0 : CrI hA hA (g.n + 1) b10 b11 D kl (lvC tr g.n) 0 := ⟨Nat.le_refl _, fun _ _ _ _ _ => rfl, lA, ⟨x11, (kA b11 l11).trans p11, q11⟩, x10, _, (kA b10 l10).trans p10, s10, r10, v10, by rw [Nat.zero_min]; exact OwnS.nil _ _ _ _⟩
  refine SF.mono (SF.foot (seqDirty (h := hA) (l := g.n + 1) (b1 := b1) (bd := bd) (L := L) (D := D) (W := fun b => b = g.n + 1 ∨ b = b10 ∨ b = b11) (fun p g' => CrI hA g' (g.n + 1) b10 b11 D kl (lvC tr g.n) p) (fun _ => False) hd ((kA b1 l1).trans c1) I0 (fun p g' hI => ⟨hd.same fun b hb hbl => hI.k b hbl ?_ ?_ ?_, hI.k b1 (by omega) (by omega) n1 n2, hI.n⟩) (fun p g1 g2 hI h1 h2 => ?_) (fun b hb => by rcases hb with rfl | rfl | rfl <;> omega) fun p s g' hs hI => ?_) (fun b _ => hR b) fun b hb => by rcases hb with rfl | rfl | rfl <;> exact hW _ (by omega)) ?_
  · have := hMg b (hf b hb); omega
  · exact (hM b (hf b hb)).1
  · exact (hM b (hf b hb)).2
  · obtain ⟨i1, i2, i3, ⟨c, i4, i5⟩, c', lv, i6, i7, i8, i9, i10⟩ := hI
    exact ⟨by omega, fun b h3 h4 h5 h6 => (h2 b (by omega)).trans (i2 b h3 h4 h5 h6), (h2 _ (Heap.lt_of_get i3)).trans i3, ⟨c, (h2 _ (Heap.lt_of_get i4)).trans i4, i5⟩, c', lv, (h2 _ (Heap.lt_of_get i6)).trans i6, i7, i8, i9, i10.old h2⟩
  · have hpl := (List.getElem?_eq_some_iff.1 hs).1
    refine SY.monoV (rnd31 (h := hA) (y := g.n + 1) (m := g.n) (b5 := b5) (b10 := b10) (b11 := b11) (p := p) (s := s) (tr := tr) (v := v) (kl := kl) (S := S) hI ⟨by omega, by omega, by omega, by omega, by omega, n3, n4, by omega, by omega, n5⟩ t5 t10 t11 ⟨x5, (kA b5 l5).trans p5, q5⟩ (hv.old kA) (fun k hk _ => by obtain ⟨s1, s2, s3⟩ := hS k hk; exact ⟨by omega, s1, s2⟩) hkl hs (few s) (by omega)) ?_
    rintro z g2 ⟨rfl, hI2, h3⟩ vf
    exact ⟨.inl ⟨rfl, hI2⟩, h3⟩
  · rintro v2 g2 (hI | h)
    · have hlt := Heap.lt_of_get hI.y
      have hn2 := hI.n
      obtain ⟨c, lv, i6, i7, i8, i9, i10⟩ := hI.l
      refine ⟨_, hI.y, by simp [lvC], hW _ (by omega), ?_⟩
      simp only [lvC]
      simp -implicitDefEqProofs (disch := (first | omega | (simp -implicitDefEqProofs only [szs, ne_eq] <;> omega) | fail)) only [go_sem, seval, ↓reduceIte, reduceCtorEq]
      refine hk _ _ hA.n lv (by omega) ⟨c, (w_set_ne hlt (by omega) _).trans i6, i7, i8, i9⟩ (i10.keep fun b c hb _ => by rw [w_set_ne hlt (fun e => by rw [e, hI.y] at hb; cases hb)]; exact hb) (Nat.le_refl _) ?_ (by rw [Heap.n_set]; omega) fun b h1 h2 h3 => ?_
      · rw [w_set_ne hlt (by omega), hI.k g.n (by omega) (by omega) (by omega) (by omega), mA]
      · rw [w_set_ne hlt (by omega), hI.k b (by omega) (by omega) h2 h3, kA b h1]
    · exact h.elim
theorem dirty65 {v : V} (hv : v.one = true) : SF Try.prog 65 [v] h R W fun r g => r = .func 85 [] [.ptr (some (h.n, 0))] ∧ g = h.push (.cells (Blk.of [v]) 24) := by
  have hc := one_cells hv
  refine SF.go hm Try.func65 ir65_eq ?_
  simp -implicitDefEqProofs (disch := (first | omega | (simp -implicitDefEqProofs only [szs, ne_eq] <;> omega) | fail)) only [go_sem, seval, ↓reduceIte, reduceCtorEq, ir65, ↓hv, ↓hc]
noncomputable def ir31_z : LC := match ir31 with
  | .seq _ (.seq _ (.seq _ (.seq _ (.seq _ (.seq _ z))))) => z
  | _ => .skip
noncomputable def ir31_c : LC := match ir31 with
  | .seq a (.seq b (.seq c (.seq d (.seq e (.seq f _))))) => .seq a (.seq b (.seq c (.seq d (.seq e (.seq f ir31_z)))))
  | _ => .skip
theorem ir31_c_eq : ir31 = ir31_c := rfl
def CrP (h : Heap) (D : DS) (kl : List Int) (bd : Nat) (rv : V) (tr : Tr V) (m : Nat) (g : Heap) : Prop :=
  tr.get 0 = some (.ptr (some (bd, 0))) ∧ tr.get 1 = some rv ∧ (∃ b10 c lv, tr.get 10 = some (.ptr (some (b10, 0))) ∧ h.n ≤ b10 ∧ g.get b10 = some (.cells c 125) ∧ c.size = 1 ∧ c.ro = false ∧ c.get 0 = lv ∧ OwnS 2 h.n g lv (min D.dirty.length kl.length) (kpL D kl D.dirty.length) 127) ∧ h.n ≤ m ∧ g.get m = some (.deferred true) ∧ h.n ≤ g.n ∧ ∀ b, b < h.n → g.get b = h.get b
set_option maxHeartbeats 8000000 in
theorem lcrash_head {v rv : V} {kl : List Int} {P : V → Heap → Prop} (hrv : rv.one = true) (hx : DkX h M bd D) (hR : ∀ b, R b) (hv : LR h (fun b => b < h.n) v (kl.map (V.int .i64))) (hkl : ∀ k ∈ kl, -9223372036854775808 ≤ k ∧ k ≤ 9223372036854775807) (few : ∀ s, (D.pe s).length < 1000000000)
    (hk : ∀ tr m g, CrP h D kl bd rv tr m g → GO ⟨Try.prog, true⟩ (fun b => h.n ≤ b ∨ R b) (fun b => h.n ≤ b ∨ W b) none (Vm.Fin ⟨Try.prog, true⟩ (fun b => h.n ≤ b ∨ R b) (fun b => h.n ≤ b ∨ W b) [.tmp 6, .tmp 7, .tmp 8] P) [.code ir31_z] ⟨⟨75, tr⟩, [m]⟩ g) :
    SF ⟨Try.prog, true⟩ 31 [.ptr (some (bd, 0)), rv, v] h R W P := by
  have hp := hx.pos
  have hR' : ∀ b, h.n ≤ b ∨ R b := fun b => .inr (hR b)
  have hvo := hv.one
  have hvc := hv.cells
  have hlt := hx.lt
  refine SF.go hm Try.func31 ir31_eq ?_
  rw [ir31_c_eq]
  simp -implicitDefEqProofs (disch := (first | omega | (simp -implicitDefEqProofs only [szs, ne_eq] <;> omega) | fail)) only [go_sem, seval, ↓reduceIte, reduceCtorEq, ir31_c, ir31, ↓hvo, ↓hvc, ↓hrv]
  refine GCall.of (dirty65 rfl).any ?_
  rintro r g ⟨rfl, rfl⟩
  simp -implicitDefEqProofs (disch := (first | omega | (simp -implicitDefEqProofs only [szs, ne_eq] <;> omega) | fail)) only [go_sem, seval, ↓reduceIte, reduceCtorEq, undefV]
  refine ⟨.inl (by omega), ?_⟩
  refine cr_rg (M := M) (bd := bd) (D := D) (b1 := h.n + 1) (b5 := h.n) (b10 := h.n + 1 + 1) (b11 := h.n + 1 + 1 + 1) (v := v) (kl := kl) (S := fun b => b < h.n) ?hR ?hW ?hx ?hM ?t5 ?t10 ?t11 ?t24 ?c1 ?c5 ?c10 ?c11 ?hne ?hv ?hS hkl few ?hk
  case hR => exact hR'
  case hW => intro k hk; simp only [Heap.n_push, Heap.n_set] at hk; exact .inl (by omega)
  case hx => exact hx.old (by simp only [Heap.n_push, Heap.n_set]; omega) fun b hb => by simp -implicitDefEqProofs (disch := (first | omega | (simp -implicitDefEqProofs only [szs, ne_eq] <;> omega) | fail)) only [go_sem, seval, ↓reduceIte, reduceCtorEq]
  case hM => intro k hk; have := hlt k hk; omega
  case t5 => simp -implicitDefEqProofs (disch := (first | omega | (simp -implicitDefEqProofs only [szs, ne_eq] <;> omega) | fail)) only [go_sem, seval, ↓reduceIte, reduceCtorEq]
  case t10 => simp -implicitDefEqProofs (disch := (first | omega | (simp -implicitDefEqProofs only [szs, ne_eq] <;> omega) | fail)) only [go_sem, seval, ↓reduceIte, reduceCtorEq]
  case t11 => simp -implicitDefEqProofs (disch := (first | omega | (simp -implicitDefEqProofs only [szs, ne_eq] <;> omega) | fail)) only [go_sem, seval, ↓reduceIte, reduceCtorEq]
  case t24 => simp -implicitDefEqProofs (disch := (first | omega | (simp -implicitDefEqProofs only [szs, ne_eq] <;> omega) | fail)) only [go_sem, seval, ↓reduceIte, reduceCtorEq]
  case hne => omega
  case hv => exact hv.old fun b hb => by simp -implicitDefEqProofs (disch := (first | omega | (simp -implicitDefEqProofs only [szs, ne_eq] <;> omega) | fail)) only [go_sem, seval, ↓reduceIte, reduceCtorEq]
  case hS => intro k hk; simp only [Heap.n_push, Heap.n_set]; omega
  case c1 => simp -implicitDefEqProofs (disch := (first | omega | (simp -implicitDefEqProofs only [szs, ne_eq] <;> omega) | fail)) only [go_sem, seval, ↓reduceIte, reduceCtorEq]
  case c5 => simp -implicitDefEqProofs (disch := (first | omega | (simp -implicitDefEqProofs only [szs, ne_eq] <;> omega) | fail)) only [go_sem, seval, ↓reduceIte, reduceCtorEq]; exact ⟨_, rfl, rfl, rfl⟩
  case c10 => simp -implicitDefEqProofs (disch := (first | omega | (simp -implicitDefEqProofs only [szs, ne_eq] <;> omega) | fail)) only [go_sem, seval, ↓reduceIte, reduceCtorEq]; exact ⟨_, rfl, rfl, rfl, rfl⟩
  case c11 => simp -implicitDefEqProofs (disch := (first | omega | (simp -implicitDefEqProofs only [szs, ne_eq] <;> omega) | fail)) only [go_sem, seval, ↓reduceIte, reduceCtorEq]; exact ⟨_, rfl, rfl, rfl, rfl⟩
  case hk =>
    intro g3 m n0 lv h1 ⟨c, h2, h3, h4, h5⟩ h6 h7 h8 h9 h10
    simp only [Heap.n_push, Heap.n_set] at h1 h7 h9 h10
    refine hk _ _ _ ⟨by simp -implicitDefEqProofs (disch := (first | omega | (simp -implicitDefEqProofs only [szs, ne_eq] <;> omega) | fail)) only [go_sem, seval, ↓reduceIte, reduceCtorEq], by simp -implicitDefEqProofs (disch := (first | omega | (simp -implicitDefEqProofs only [szs, ne_eq] <;> omega) | fail)) only [go_sem, seval, ↓reduceIte, reduceCtorEq], ⟨_, c, lv, by simp -implicitDefEqProofs (disch := (first | omega | (simp -implicitDefEqProofs only [szs, ne_eq] <;> omega) | fail)) only [go_sem, seval, ↓reduceIte, reduceCtorEq], by omega, h2, h3, h4, h5, h6.mono (by omega)⟩, by omega, h8, by omega, fun b hb => ?_⟩
    rw [h10 b (by omega) (by omega) (by omega)]
    simp -implicitDefEqProofs (disch := (first | omega | (simp -implicitDefEqProofs only [szs, ne_eq] <;> omega) | fail)) only [go_sem, seval, ↓reduceIte, reduceCtorEq]
theorem crash_dk {v : V} {m : Nat} {ks kw : Nat → Int} {f : Nat → List V} {S : Set'} (hx : DkX h M bd D) (hR : ∀ b, R b) (hv : KeepV h S v m ks kw) (hf : crashF D ks kw m = some f) : SF Try.prog 32 [.ptr (some (bd, 0)), v] h R W fun r g => ∃ M' bd', r = .tuple [.ptr (some (bd', 0)), .int .i64 0] ∧ DkX g M' bd' (D.crashed f) ∧ (∀ k, M' k → h.n ≤ k) ∧ h.n ≤ g.n ∧ ∀ k, k < h.n → g.get k = h.get k := by
  obtain ⟨⟨L, hd, hfo⟩, hlt⟩ := hx
  refine SF.mono (crash_ok (R := R) (W := W) hd (fun b _ => hR b) (v := v) (m := m) (ks := ks) (kw := kw) ⟨hv.1, hv.2.imp id fun ⟨b, o, cap, ex, c, ce, e, _, hb, hs⟩ => ⟨b, o, cap, ex, c, ce, e, hR b, hb, hs⟩⟩).kept ?_
  rintro r g ⟨⟨hk, hq⟩, vf⟩
  rw [hf] at hq
  obtain ⟨rfl, hd'⟩ := hq
  refine ⟨_, _, rfl, DkX.mk' hd', fun k hk => ?_, vf.n, hk⟩
  rcases hk with rfl | rfl | rfl | ⟨x, hx, _⟩
  · omega
  · show h.n ≤ h.n + 1; omega
  · show h.n ≤ h.n + 2; omega
  · exact absurd rfl hx
set_option maxHeartbeats 8000000 in
theorem lcrash_nil {v : V} {kl : List Int} (hx : DkX h M bd D) (hR : ∀ b, R b) (hv : LR h (fun b => b < h.n) v (kl.map (V.int .i64))) (hkl : ∀ k ∈ kl, -9223372036854775808 ≤ k ∧ k ≤ 9223372036854775807) (few : ∀ s, (D.pe s).length < 1000000000) :
    SF ⟨Try.prog, true⟩ 31 [.ptr (some (bd, 0)), .ptr none, v] h R W fun r g => ∃ M' bd', r = .tuple [.ptr (some (bd', 0)), .ptr none, .bool true] ∧ DkX g M' bd' (D.crashed (crF D kl)) ∧ (∀ k, M' k → h.n ≤ k) ∧ h.n ≤ g.n ∧ ∀ k, k < h.n → g.get k = h.get k := by
  have hp := hx.pos
  refine lcrash_head rfl hx hR hv hkl few fun tr m g ⟨t0, t1, ⟨b10, c, lv, t10, hb, c1, c2, c3, c4, ho⟩, hm1, hm2, hn, hk⟩ => ?_
  have hxg : DkX g M bd D := hx.old hn hk
  have hol := ho.lr.one
  have hR' : ∀ b, h.n ≤ b ∨ R b := fun b => .inr (hR b)
  simp -implicitDefEqProofs (disch := (first | omega | (simp -implicitDefEqProofs only [szs, ne_eq] <;> omega) | fail)) only [go_sem, seval, ↓reduceIte, reduceCtorEq, ir31_z, ir31, t0, t1, t10, c1, c2, c4, undefV]
  refine ⟨.inl hb, ?_⟩
  refine GCall.of (crash_dk hxg hR' (keep_own ho (by have := dirty_len D; omega)) (by rw [show min D.dirty.length kl.length = min D.dirty.length kl.length from rfl]; exact (crF_ok D kl).1)).any ?_
  rintro r g1 ⟨M', bd', rfl, hx1, hM', n1, k1⟩
  have hm3 := (k1 m (Heap.lt_of_get hm2)).trans hm2
  simp -implicitDefEqProofs (disch := (first | omega | (simp -implicitDefEqProofs only [szs, ne_eq] <;> omega) | fail)) only [go_sem, seval, ↓reduceIte, reduceCtorEq, undefV, t0, t1, t10, hm3, Option.isNone_none, Option.isSome_none, Option.isSome_some]
  have hml := Heap.lt_of_get hm2
  refine ⟨.inl hm1, M', bd', rfl, hx1.same (by rw [Heap.n_set]; exact Nat.le_refl _) (fun k hk => w_set_ne (Heap.lt_of_get hm3) (by have := hM' k hk; omega) _), fun k hk => by have := hM' k hk; omega, by omega, fun k hk' => ?_⟩
  rw [w_set_ne (Heap.lt_of_get hm3) (by omega), k1 k (by omega), hk k hk']
end Go.Proofs.Ytakgjjbmniilhaa
