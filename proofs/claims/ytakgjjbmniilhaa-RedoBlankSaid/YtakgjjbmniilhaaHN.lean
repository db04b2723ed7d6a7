/- RedoBlank, walked. -/
import Derived.Test.YtakgjjbmniilhaaHM
set_option linter.unusedVariables false
set_option linter.unusedSimpArgs false
set_option linter.unusedSimpArgs false
set_option maxRecDepth 100000
set_option linter.unusedVariables false
set_option linter.unusedSimpArgs false
namespace Go.Proofs.Ytakgjjbmniilhaa
open Go Go.Vm
attribute [-go_sem] sz_101
variable {h g : Heap} {R W M N : Set'} {bd lp fr ct : Nat} {D : DS} {G : LgS}
theorem TwoQ.same (hx : DkX h M bd D) (hl : LgX h N lp bd fr ct G) (hMN : ∀ k, N k → ¬ M k) (hn : h.n ≤ g.n) (hk : ∀ k, k < h.n → g.get k = h.get k) : TwoQ h g M N lp bd fr ct D G :=
  ⟨hn, fun k h1 _ _ => hk k h1, M, N, hx.old hn hk, hl.keep hn fun k h1 _ => hk k h1, fun k h1 => .inl h1, fun k h1 => .inl h1, hMN⟩
theorem partsN_le (n : Nat) : (partsN n).1 ≤ 64 := by
  unfold partsN
  split
  · simp
  · simp only; omega
theorem AppQ.any {l : List V} {r : V} {j : Nat} (hq : AppQ h M N lp bd fr ct D G l r g) (hx : DkX h M bd D) (hl : LgX h N lp bd fr ct G) (hMN : ∀ k, N k → ¬ M k) (hf : Few D j) : ∃ D' G', TwoQ h g M N lp bd fr ct D' G' ∧ D'.n = D.n ∧ Few D' (j + 64) ∧ G.nx ≤ G'.nx ∧ G'.nx ≤ G.nx + 1 := by
  unfold AppQ at hq
  split at hq
  · exact ⟨D, G, TwoQ.same hx hl hMN hq.2.1 hq.2.2, rfl, hf.mono (by omega), Nat.le_refl _, by omega⟩
  · split at hq
    · exact ⟨D, G, TwoQ.same hx hl hMN hq.2.1 hq.2.2, rfl, hf.mono (by omega), Nat.le_refl _, by omega⟩
    · exact ⟨_, _, hq.2, appW_n _ _ _ _ _ _ _, (few_app hf _).mono (by have := partsN_le l.length; omega), by show G.nx ≤ G.nx + 1; omega, Nat.le_refl _⟩
theorem cvS22 {M : MP} {R W : Set'} {tm : Tm} {h : Heap} {K : V → Heap → Prop} (x : Operand) : LOp M R W tm h (.convert 22 22 x) K = onO (evV tm x) fun a => onO (selfV M.P 22 a h) fun p => allB R p.r ∧ allB W p.w ∧ K p.v p.h := by
  have hb : Nat.beq 22 22 = true := rfl
  unfold LOp SOp bare; simp only [evP, hb]
  cases evV tm x with
  | none => simp [onO]
  | some a => simp only [onO_some]; cases selfV M.P 22 a h <;> simp [onO]
theorem self_push (h : Heap) : selfV Try.prog 22 (.slice (some (h.n, 0)) 1 1 true) (h.push (.cells (Blk.of aV) 5)) = some ⟨.slice (some (h.n, 0)) 1 1 true, (h.push (.cells (Blk.of aV) 5)).set h.n (.cells (Blk.of aV) 5), [], [h.n]⟩ := by
  unfold selfV
  simp only [Try.underlying22, Try.underlying5]
  rw [w_push_eq rfl]
  rfl
set_option maxHeartbeats 16000000 in
theorem blank_law {f k : Int} {v : V} {l : List V} (hkn : ∀ (h : Heap) (R W : Set'), SF ⟨Try.prog, true⟩ 7 [] h R W fun r g => r = .bool true ∧ g = h) (hf : -9223372036854775808 ≤ f ∧ f ≤ 9223372036854775807) (hk : -9223372036854775808 ≤ k ∧ k ≤ 9223372036854775807) (hv : LR h (fun b => b < h.n) v l) (hcap : capOk v) (hby : Byt l) (hll : l.length ≤ 9223372036854775807) (hR : ∀ b, R b) :
    SF ⟨Try.prog, true⟩ 3 [.int .i64 f, .int .i64 k, v] h R W fun r _ => r = .bool true := by
  have hR' : ∀ b, h.n ≤ b ∨ R b := fun b => .inr (hR b)
  have hlen := hv.lenV Try.underlying22
  refine SF.go hm Try.func3 ir3_eq ?_
  by_cases h9 : 9000 < l.length
  · have i9 : (9000 : Int) < (l.length : Int) := by omega
    simp -implicitDefEqProofs (disch := (first | omega | (simp -implicitDefEqProofs only [szs, ne_eq] <;> omega) | fail)) only [go_sem, seval, ↓reduceIte, reduceCtorEq, ir3, undefV, ↓hlen, i9]
    refine GCall.of (hkn _ _ _) ?_
    rintro r g ⟨rfl, rfl⟩
    simp -implicitDefEqProofs (disch := (first | omega | (simp -implicitDefEqProofs only [szs, ne_eq] <;> omega) | fail)) only [go_sem, seval, ↓reduceIte, reduceCtorEq]
  have i9 : ¬ (9000 : Int) < (l.length : Int) := by omega
  simp -implicitDefEqProofs (disch := (first | omega | (simp -implicitDefEqProofs only [szs, ne_eq] <;> omega) | fail)) only [go_sem, seval, ↓reduceIte, reduceCtorEq, ir3, undefV, ↓hlen, i9]
  refine GCall.of (SF.any (M := ⟨Try.prog, true⟩) (new_dk (n := 48) ⟨by omega, by omega⟩)) ?_
  rintro r g1 ⟨M1, bd, rfl, hx1, hM1, n1, k1⟩
  rw [show (48 : Int).toNat = 48 from rfl] at hx1
  have hv1 : LR g1 (fun b => b < h.n) v l := hv.old k1
  simp -implicitDefEqProofs (disch := (first | omega | (simp -implicitDefEqProofs only [szs, ne_eq] <;> omega) | fail)) only [go_sem, seval, ↓reduceIte, reduceCtorEq, undefV]
  refine GCall.of (SF.any (M := ⟨Try.prog, true⟩) (parts_ok hv1 (by omega))) ?_
  rintro r g1 ⟨rfl, rfl⟩
  simp -implicitDefEqProofs (disch := (first | omega | (simp -implicitDefEqProofs only [szs, ne_eq] <;> omega) | fail)) only [go_sem, seval, ↓reduceIte, reduceCtorEq, undefV]
  refine GCall.of (SF.any (M := ⟨Try.prog, true⟩) (rparts_ok hv1 (by omega))) ?_
  rintro r g1 ⟨rfl, rfl⟩
  simp -implicitDefEqProofs (disch := (first | omega | (simp -implicitDefEqProofs only [szs, ne_eq] <;> omega) | fail)) only [go_sem, seval, ↓reduceIte, reduceCtorEq, undefV]
  have hW1 : ∀ k, M1 k → h.n ≤ k ∨ W k := fun k hk => .inl (hM1 k hk)
  refine GCall.of (open_log (f := f) (k := k) hx1 hf hk ((few_new 48).lt (by omega)) hR' hW1) ?_
  rintro r g2 hq
  unfold OpenQ at hq
  by_cases ho : okO (DS.new 48) f k
  rotate_left
  · rw [if_neg ho] at hq
    obtain ⟨rfl, n2, k2⟩ := hq
    simp -implicitDefEqProofs (disch := (first | omega | (simp -implicitDefEqProofs only [szs, ne_eq] <;> omega) | fail)) only [go_sem, seval, ↓reduceIte, reduceCtorEq, undefV]
    refine GCall.of (blank_ok (f := f) (k := k) (hx1.old n2 k2) hf hk ((few_new 48).lt (by omega)) hR' hW1) ?_
    rintro r g3 hq
    unfold BlankQ at hq
    rw [if_neg ho] at hq
    obtain ⟨rfl, n3, k3⟩ := hq
    simp -implicitDefEqProofs (disch := (first | omega | (simp -implicitDefEqProofs only [szs, ne_eq] <;> omega) | fail)) only [go_sem, seval, ↓reduceIte, reduceCtorEq, undefV]
    refine GCall.of (hkn _ _ _) ?_
    rintro r g ⟨rfl, rfl⟩
    simp -implicitDefEqProofs (disch := (first | omega | (simp -implicitDefEqProofs only [szs, ne_eq] <;> omega) | fail)) only [go_sem, seval, ↓reduceIte, reduceCtorEq]
  rw [if_pos ho] at hq
  have hD0 : (DS.new 48).n = 48 := rfl
  obtain ⟨fr, rfl⟩ : ∃ fr : Nat, f = fr := ⟨f.toNat, by unfold okO at ho; omega⟩
  obtain ⟨ct, rfl⟩ : ∃ ct : Nat, k = ct := ⟨k.toNat, by unfold okO at ho; omega⟩
  have hc : 16 ≤ ct ∧ fr + ct ≤ 48 := by unfold okO at ho; omega
  rw [Int.toNat_natCast, Int.toNat_natCast, open_blank (blank_new 48 fr ct) hc.1] at hq
  obtain ⟨lp, hlp, rfl, n2, k2, M2, N2, hx2, hl2, hM2, hN2, hd2⟩ := hq
  have f2 : Few (layD (DS.new 48) fr ct H1) 1 := few_lay (few_new 48)
  have hhn : h.n ≤ g1.n := n1
  have M2h : ∀ k, M2 k → h.n ≤ k := fun k hk => (hM2 k hk).elim (hM1 k) fun h => by omega
  have N2h : ∀ k, N2 k → h.n ≤ k := fun k hk => (hN2 k hk).elim (fun h => h.elim) fun h => by omega
  simp -implicitDefEqProofs (disch := (first | omega | (simp -implicitDefEqProofs only [szs, ne_eq] <;> omega) | fail)) only [go_sem, seval, ↓reduceIte, reduceCtorEq, undefV]
  refine GCall.of (blank_ok (f := fr) (k := ct) hx2 hf hk (f2.lt (by omega)) hR' fun k hk => .inl (M2h k hk)) ?_
  rintro r g3 hq
  unfold BlankQ at hq
  have ho2 : okO (layD (DS.new 48) fr ct H1) fr ct := ho
  rw [if_pos ho2, Int.toNat_natCast, Int.toNat_natCast] at hq
  obtain ⟨rfl, ⟨n3, k3⟩, M3, hx3, hM3⟩ := hq
  have f3 := few_blank (fr := fr) (ct := ct) f2
  have hl3 : LgX g3 N2 lp bd fr ct G1 := hl2.keep n3 fun k h1 h2 => k3 k h1 (hd2 k h2)
  have hd3 : ∀ k, N2 k → ¬ M3 k := fun k hk h1 => (hM3 k h1).elim (hd2 k hk) fun h => by have := hl2.lt k hk; omega
  have M3h : ∀ k, M3 k → h.n ≤ k := fun k hk => (hM3 k hk).elim (M2h k) fun h => by omega
  have kh3 : ∀ k, k < h.n → g3.get k = h.get k := fun k hk => by
    rw [k3 k (by omega) fun h1 => by have := M2h k h1; omega, k2 k (by omega) (fun h1 => by have := hM1 k h1; omega) id, k1 k hk]
  have hv3 : LR g3 (fun b => b < h.n) v l := hv.old kh3
  simp -implicitDefEqProofs (disch := (first | omega | (simp -implicitDefEqProofs only [szs, ne_eq] <;> omega) | fail)) only [go_sem, seval, ↓reduceIte, reduceCtorEq, undefV]
  refine GCall.of (SF.any (M := ⟨Try.prog, true⟩) (append_ok hx3 hl3 hd3 (by rw [blankD_n, layD_n]; exact hc) hR' (fun k hk => .inl (hk.elim (M3h k) (N2h k))) hv3 (fun k hk => ⟨by omega, fun h1 => by have := M3h k h1; omega, fun h1 => by have := N2h k h1; omega⟩) hcap hby (by omega) (by decide) ⟨by decide, by decide⟩ (Nat.zero_le _) (Nat.zero_le _) (f3.lt (by omega)))) ?_
  rintro r g4 hq
  obtain ⟨D4, G4, ⟨n4, k4, M4, N4, hx4, hl4, hM4, hN4, hd4⟩, e4, f4, nx1, nx2⟩ := hq.any hx3 hl3 hd3 f3
  rw [blankD_n, layD_n, hD0] at e4
  have nxe : G1.nx = 1 := rfl
  have M4h : ∀ k, M4 k → h.n ≤ k := fun k hk => (hM4 k hk).elim (M3h k) fun h => by omega
  have N4h : ∀ k, N4 k → h.n ≤ k := fun k hk => (hN4 k hk).elim (N2h k) fun h => by omega
  simp -implicitDefEqProofs (disch := (first | omega | (simp -implicitDefEqProofs only [szs, ne_eq] <;> omega) | fail)) only [go_sem, seval, ↓reduceIte, reduceCtorEq, undefV]
  refine GCall.of (SF.any (M := ⟨Try.prog, true⟩) (sync_ok hx4 hl4 hd4 (by rw [e4]; exact hc) hR' (fun k hk => .inl (M4h k hk)) (.inl (N4h lp hl4.l)) ⟨by omega, by omega⟩)) ?_
  rintro r g5 ⟨rfl, n5, k5, M5, N5, hx5, hl5, hM5, hN5, hd5⟩
  have f5 : Few (D4.flush fr ct) _ := f4.flush
  have e5 : (D4.flush fr ct).n = 48 := e4
  have ho5 : okO (D4.flush fr ct) fr ct := by unfold okO; rw [e5]; omega
  have M5h : ∀ k, M5 k → h.n ≤ k := fun k hk => (hM5 k hk).elim (M4h k) fun h => by omega
  simp -implicitDefEqProofs (disch := (first | omega | (simp -implicitDefEqProofs only [szs, ne_eq] <;> omega) | fail)) only [go_sem, seval, ↓reduceIte, reduceCtorEq, undefV]
  refine GCall.of (blank_ok (f := fr) (k := ct) hx5 hf hk (f5.lt (by omega)) hR' fun k hk => .inl (M5h k hk)) ?_
  rintro r g6 hq
  unfold BlankQ at hq
  rw [if_pos ho5, Int.toNat_natCast, Int.toNat_natCast] at hq
  obtain ⟨rfl, ⟨n6, k6⟩, M6, hx6, hM6⟩ := hq
  obtain ⟨E, eE⟩ : ∃ E, E = blankD (D4.flush fr ct) fr ct := ⟨_, rfl⟩
  have hb6 : BlankS E fr ct := eE ▸ blank_blank _ fr ct
  have f6 : Few E _ := eE ▸ few_blank (fr := fr) (ct := ct) f5
  have e6 : E.n = 48 := by rw [eE, blankD_n]; exact e5
  rw [← eE] at hx6
  have ho6 : okO E fr ct := by unfold okO; rw [e6]; omega
  have M6h : ∀ k, M6 k → h.n ≤ k := fun k hk => (hM6 k hk).elim (M5h k) fun h => by omega
  simp -implicitDefEqProofs (disch := (first | omega | (simp -implicitDefEqProofs only [szs, ne_eq] <;> omega) | fail)) only [go_sem, seval, ↓reduceIte, reduceCtorEq, undefV]
  refine GCall.of (open_log (f := fr) (k := ct) hx6 hf hk (f6.lt (by omega)) hR' fun k hk => .inl (M6h k hk)) ?_
  rintro r g7 hq
  unfold OpenQ at hq
  rw [if_pos ho6, Int.toNat_natCast, Int.toNat_natCast, open_blank hb6 hc.1] at hq
  obtain ⟨lq, hlq, rfl, n7, k7, M7, N7, hx7, hl7, hM7, hN7, hd7⟩ := hq
  have f7 : Few (layD E fr ct H1) _ := few_lay f6
  have M7h : ∀ k, M7 k → h.n ≤ k := fun k hk => (hM7 k hk).elim (M6h k) fun h => by omega
  have N7h : ∀ k, N7 k → h.n ≤ k := fun k hk => (hN7 k hk).elim (fun h => h.elim) fun h => by omega
  simp -implicitDefEqProofs (disch := (first | omega | (simp -implicitDefEqProofs only [szs, ne_eq] <;> omega) | fail)) only [go_sem, seval, ↓reduceIte, reduceCtorEq, undefV]
  refine GCall.of (SF.any (M := ⟨Try.prog, true⟩) (epoch_ok hl7 hR' (by decide))) ?_
  rintro r g7 ⟨rfl, rfl⟩
  have t1 : ((G1.H.ep : Nat) : Int) = 1 := rfl
  simp -implicitDefEqProofs (disch := (first | omega | (simp -implicitDefEqProofs only [szs, ne_eq] <;> omega) | fail)) only [go_sem, seval, ↓reduceIte, reduceCtorEq, undefV, t1]
  refine GCall.of ((SF.any (M := ⟨Try.prog, true⟩) (snapshot_ok (R := allR) (W := noW) hl7 (fun _ => trivial) Byt.nil (Nat.zero_le _)).kept).foot (fun b _ => hR' b) fun b h => h.elim) ?_
  rintro r g8 ⟨⟨o8, k8⟩, vf8⟩
  have n8 := vf8.n
  have hlen8 := o8.lr.lenV Try.underlying22
  have t2 : ((G1.sn.length : Nat) : Int) = 0 := rfl
  have hx8 : DkX g8 M7 bd (layD E fr ct H1) := hx7.old n8 k8
  have hl8 : LgX g8 N7 lq bd fr ct G1 := hl7.keep n8 fun k h1 _ => k8 k h1
  simp -implicitDefEqProofs (disch := (first | omega | (simp -implicitDefEqProofs only [szs, ne_eq] <;> omega) | fail)) only [go_sem, seval, ↓reduceIte, reduceCtorEq, undefV, ↓hlen8, t2]
  refine GCall.of (SF.any (M := ⟨Try.prog, true⟩) (last_ok hl8 hR' (by decide))) ?_
  rintro r g8 ⟨rfl, rfl⟩
  have t3 : ((G1.nx : Nat) : Int) - 1 = 0 := rfl
  have hsp := self_push g8
  simp only [aV] at hsp
  have hhg8 : h.n ≤ g8.n := by omega
  simp -implicitDefEqProofs (disch := (first | omega | (simp -implicitDefEqProofs only [szs, ne_eq] <;> omega) | fail)) only [go_sem, seval, ↓reduceIte, reduceCtorEq, undefV, t3, ↓cvS22, hsp, hhg8]
  obtain ⟨g9, e9⟩ : ∃ g9, g9 = (g8.push (O.cells (Blk.of [V.int IntKind.u8 97]) 5)).set g8.n (O.cells (Blk.of [V.int IntKind.u8 97]) 5) := ⟨_, rfl⟩
  rw [← e9]
  have n9 : g9.n = g8.n + 1 := by rw [e9]; simp only [Heap.n_push, Heap.n_set]
  have A9 : g9.get g8.n = some (.cells (Blk.of aV) 5) := by rw [e9]; exact w_set_eq (by simp only [Heap.n_push]; omega) rfl _
  have k9 : ∀ k, k < g8.n → g9.get k = g8.get k := fun k hk => by rw [e9, w_set_ne (by simp only [Heap.n_push]; omega) (by omega), w_push_ne (by omega)]
  clear e9
  have hx9 : DkX g9 M7 bd (layD E fr ct H1) := hx8.old (by omega) k9
  have hl9 : LgX g9 N7 lq bd fr ct G1 := hl8.keep (by omega) fun k h1 _ => k9 k h1
  have hv9 : LR g9 (fun b => b = g8.n) (.slice (some (g8.n, 0)) 1 1 true) aV := .inr ⟨g8.n, 0, 1, true, _, 5, rfl, rfl, A9, by decide, rfl⟩
  have M78 : ∀ k, M7 k → k < g8.n := fun k hk => hx8.lt k hk
  have N78 : ∀ k, N7 k → k < g8.n := fun k hk => hl8.lt k hk
  have hbyA : Byt aV := Byt.cons ⟨97, rfl, by decide, by decide⟩ Byt.nil
  refine GCall.of (SF.any (M := ⟨Try.prog, true⟩) (append_ok hx9 hl9 hd7 (by rw [layD_n, e6]; exact hc) hR' (fun k hk => .inl (hk.elim (M7h k) (N7h k))) hv9 (fun k hk => ⟨by omega, fun h1 => by have := M78 k h1; omega, fun h1 => by have := N78 k h1; omega⟩) (Nat.le_refl _) hbyA (by decide) (by decide) ⟨by decide, by decide⟩ (Nat.zero_le _) (Nat.zero_le _) (f7.lt (by omega)))) ?_
  rintro r g10 hq
  unfold AppQ at hq
  have hp1 : partsN aV.length = (1, 0) := rfl
  rw [if_neg (by decide), if_neg (by rw [hp1]; show ¬ (ct - 2) / 2 < 1 + 0; omega), hp1] at hq
  obtain ⟨rfl, n10, k10, M10, N10, hx10, hl10, hM10, hN10, hd10⟩ := hq
  have f10 : Few (appW (layD E fr ct H1) fr ct G1 aV 1 1) _ := few_app f7 1
  have e10 : (appW (layD E fr ct H1) fr ct G1 aV 1 1).n = 48 := e6
  have M10h : ∀ k, M10 k → h.n ≤ k := fun k hk => (hM10 k hk).elim (M7h k) fun h => by omega
  have N10h : ∀ k, N10 k → h.n ≤ k := fun k hk => (hN10 k hk).elim (N7h k) fun h => by omega
  simp -implicitDefEqProofs (disch := (first | omega | (simp -implicitDefEqProofs only [szs, ne_eq] <;> omega) | fail)) only [go_sem, seval, ↓reduceIte, reduceCtorEq, undefV]
  refine GCall.of (SF.any (M := ⟨Try.prog, true⟩) (sync_ok hx10 hl10 hd10 (by rw [e10]; exact hc) hR' (fun k hk => .inl (M10h k hk)) (.inl (N10h lq hl10.l)) ⟨by show 1 ≤ G1.nx + 1; omega, by show G1.nx + 1 < _; omega⟩)) ?_
  rintro r g11 ⟨rfl, n11, k11, M11, N11, hx11, hl11, hM11, hN11, hd11⟩
  have f11 : Few ((appW (layD E fr ct H1) fr ct G1 aV 1 1).flush fr ct) _ := f10.flush
  have e11 : ((appW (layD E fr ct H1) fr ct G1 aV 1 1).flush fr ct).n = 48 := e10
  have ho11 : okO ((appW (layD E fr ct H1) fr ct G1 aV 1 1).flush fr ct) fr ct := by unfold okO; rw [e11]; omega
  have M11h : ∀ k, M11 k → h.n ≤ k := fun k hk => (hM11 k hk).elim (M10h k) fun h => by omega
  simp -implicitDefEqProofs (disch := (first | omega | (simp -implicitDefEqProofs only [szs, ne_eq] <;> omega) | fail)) only [go_sem, seval, ↓reduceIte, reduceCtorEq, undefV]
  refine GCall.of (open_log (f := fr) (k := ct) hx11 hf hk (f11.lt (by omega)) hR' fun k hk => .inl (M11h k hk)) ?_
  rintro r g12 hq
  obtain ⟨D', G', eo, nx'⟩ := open_one hb6 hc.1
  unfold OpenQ at hq
  rw [if_pos ho11, Int.toNat_natCast, Int.toNat_natCast, eo] at hq
  obtain ⟨lr, hlr, rfl, n12, k12, M12, N12, hx12, hl12, hM12, hN12, hd12⟩ := hq
  simp -implicitDefEqProofs (disch := (first | omega | (simp -implicitDefEqProofs only [szs, ne_eq] <;> omega) | fail)) only [go_sem, seval, ↓reduceIte, reduceCtorEq, undefV]
  refine GCall.of (SF.any (M := ⟨Try.prog, true⟩) (last_ok hl12 hR' (by omega))) ?_
  rintro r g12 ⟨rfl, rfl⟩
  have t4 : ((G'.nx : Nat) : Int) - 1 = 1 := by omega
  simp -implicitDefEqProofs (disch := (first | omega | (simp -implicitDefEqProofs only [szs, ne_eq] <;> omega) | fail)) only [go_sem, seval, ↓reduceIte, reduceCtorEq, undefV, t4]
  refine GCall.of (hkn _ _ _) ?_
  rintro r g ⟨rfl, rfl⟩
  simp -implicitDefEqProofs (disch := (first | omega | (simp -implicitDefEqProofs only [szs, ne_eq] <;> omega) | fail)) only [go_sem, seval, ↓reduceIte, reduceCtorEq]
end Go.Proofs.Ytakgjjbmniilhaa
