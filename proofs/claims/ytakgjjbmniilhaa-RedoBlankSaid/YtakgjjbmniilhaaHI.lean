/- The log: what it tells; Sync. -/
import Derived.Test.YtakgjjbmniilhaaHH
set_option linter.unusedVariables false
set_option linter.unusedSimpArgs false
set_option linter.unusedSimpArgs false
set_option maxRecDepth 100000
set_option linter.unusedVariables false
set_option linter.unusedSimpArgs false
namespace Go.Proofs.Ytakgjjbmniilhaa
open Go Go.Vm
attribute [-go_sem] sz_101
variable {h g : Heap} {R W M N : Set'} {bd lp fr ct : Nat} {D : DS} {G : LgS}
theorem lthere_ok (hl : LgX h N lp bd fr ct G) (hR : ∀ b, R b) : SF Try.prog 39 [.ptr (some (lp, 0))] h R W fun r g => r = .bool true ∧ g = h := by
  obtain ⟨⟨c, v11, rv, vs, hl⟩, _, _⟩ := hl
  have l1 := hl.l1
  have l2 := hl.l2
  have k0 := hl.k0
  have ra := hR lp
  refine SF.go hm Try.func39 ir39_eq ?_
  simp -implicitDefEqProofs (disch := (first | omega | (simp -implicitDefEqProofs only [szs, ne_eq] <;> omega) | fail)) only [go_sem, seval, ↓reduceIte, reduceCtorEq, ir39, undefV, l1, l2, k0, ra]
def partsN (n : Nat) : Nat × Nat := if 6912 < n then (0, 3) else (max 1 ((n + 107) / 108), 0)
theorem parts_ok {S : Set'} {v : V} {l : List V} (hv : LR h S v l) (hl : l.length ≤ 1000000000) : SF Try.prog 9 [v] h R W fun r g => r = .tuple [.int .i64 ((partsN l.length).1 : Int), .int .i64 ((partsN l.length).2 : Int)] ∧ g = h := by
  have hlen := hv.lenV Try.underlying22
  refine SF.go hm Try.func9 ir9_eq ?_
  by_cases hc : 6912 < l.length
  · have hc2 : (6912 : Int) < (l.length : Int) := by omega
    simp -implicitDefEqProofs (disch := (first | omega | (simp -implicitDefEqProofs only [szs, ne_eq] <;> omega) | fail)) only [go_sem, seval, ↓reduceIte, reduceCtorEq, ir9, undefV, ↓hlen, hc2, partsN]
    simp only [if_pos hc]; trivial
  · have hc2 : ¬ (6912 : Int) < (l.length : Int) := by omega
    have e1 : (l.length : Int) + 108 - 1 = ((l.length + 107 : Nat) : Int) := by omega
    have e2 : (((l.length + 107 : Nat) : Int)).tdiv 108 = (((l.length + 107) / 108 : Nat) : Int) := rfl
    simp -implicitDefEqProofs (disch := (first | omega | (simp -implicitDefEqProofs only [szs, ne_eq] <;> omega) | fail)) only [go_sem, seval, ↓reduceIte, reduceCtorEq, ir9, undefV, ↓hlen, hc2, e1, e2]
    have e3 : (if (1 : Int) < (((l.length + 107) / 108 : Nat) : Int) then (((l.length + 107) / 108 : Nat) : Int) else 1) = ((max 1 ((l.length + 107) / 108) : Nat) : Int) := by
      split <;> omega
    rw [e3, show partsN l.length = (max 1 ((l.length + 107) / 108), 0) from if_neg hc]
    rfl
theorem rparts_ok {S : Set'} {v : V} {l : List V} (hv : LR h S v l) (hl : l.length ≤ 1000000000) : SF Try.prog 10 [v] h R W fun r g => r = .tuple [.int .i64 ((partsN l.length).1 : Int), .int .i64 ((partsN l.length).2 : Int)] ∧ g = h := by
  have hlen := hv.lenV Try.underlying22
  refine SF.go hm Try.func10 ir10_eq ?_
  by_cases hc : 6912 < l.length
  · have hc2 : (6912 : Int) < (l.length : Int) := by omega
    simp -implicitDefEqProofs (disch := (first | omega | (simp -implicitDefEqProofs only [szs, ne_eq] <;> omega) | fail)) only [go_sem, seval, ↓reduceIte, reduceCtorEq, ir10, undefV, ↓hlen, hc2, partsN]
    simp only [if_pos hc]; trivial
  · have hc2 : ¬ (6912 : Int) < (l.length : Int) := by omega
    have e1 : (l.length : Int) + 108 - 1 = ((l.length + 107 : Nat) : Int) := by omega
    have e2 : (((l.length + 107 : Nat) : Int)).tdiv 108 = (((l.length + 107) / 108 : Nat) : Int) := rfl
    simp -implicitDefEqProofs (disch := (first | omega | (simp -implicitDefEqProofs only [szs, ne_eq] <;> omega) | fail)) only [go_sem, seval, ↓reduceIte, reduceCtorEq, ir10, undefV, ↓hlen, hc2, e1, e2]
    have e3 : (if (1 : Int) < (((l.length + 107) / 108 : Nat) : Int) then (((l.length + 107) / 108 : Nat) : Int) else 1) = ((max 1 ((l.length + 107) / 108) : Nat) : Int) := by
      split <;> omega
    rw [e3, show partsN l.length = (max 1 ((l.length + 107) / 108), 0) from if_neg hc]
    rfl
theorem epoch_ok (hl : LgX h N lp bd fr ct G) (hR : ∀ b, R b) (hb : G.H.ep < 9223372036854775808) : SF Try.prog 15 [.ptr (some (lp, 0))] h R W fun r g => r = .int .i64 (G.H.ep : Int) ∧ g = h := by
  have hl0 := hl
  obtain ⟨⟨c, v11, rv, vs, hl⟩, _, _⟩ := hl
  have l1 := hl.l1
  have l2 := hl.l2
  have ra := hR lp
  have c3 : c.get 3 = .int .u64 (G.H.ep : Int) := hd_get hl.k3 (j := 0) (by omega)
  have ew : IntKind.i64.wrap (G.H.ep : Int) = (G.H.ep : Int) := by rw [IntWalk.i64_in] <;> omega
  refine SF.go hm Try.func15 ir15_eq ?_
  simp -implicitDefEqProofs (disch := (first | omega | (simp -implicitDefEqProofs only [szs, ne_eq] <;> omega) | fail)) only [go_sem, seval, ↓reduceIte, reduceCtorEq, ir15]
  refine GCall.of (lthere_ok hl0 fun b => .inr (hR b)) ?_
  rintro r g ⟨rfl, rfl⟩
  simp -implicitDefEqProofs (disch := (first | omega | (simp -implicitDefEqProofs only [szs, ne_eq] <;> omega) | fail)) only [go_sem, seval, ↓reduceIte, reduceCtorEq, undefV, l1, l2, c3, ra, cv42_2, c42_2, ew]
theorem last_ok (hl : LgX h N lp bd fr ct G) (hR : ∀ b, R b) (hb : G.nx < 9223372036854775808) : SF Try.prog 17 [.ptr (some (lp, 0))] h R W fun r g => r = .int .i64 ((G.nx : Int) - 1) ∧ g = h := by
  have hl0 := hl
  obtain ⟨⟨c, v11, rv, vs, hl⟩, _, _⟩ := hl
  have l1 := hl.l1
  have l2 := hl.l2
  have ra := hR lp
  have k8 := hl.k8
  have ew : IntKind.i64.wrap (G.nx : Int) = (G.nx : Int) := by rw [IntWalk.i64_in] <;> omega
  have ew2 : IntKind.i64.wrap ((G.nx : Int) - 1) = (G.nx : Int) - 1 := by rw [IntWalk.i64_in] <;> omega
  refine SF.go hm Try.func17 ir17_eq ?_
  simp -implicitDefEqProofs (disch := (first | omega | (simp -implicitDefEqProofs only [szs, ne_eq] <;> omega) | fail)) only [go_sem, seval, ↓reduceIte, reduceCtorEq, ir17]
  refine GCall.of (lthere_ok hl0 fun b => .inr (hR b)) ?_
  rintro r g ⟨rfl, rfl⟩
  simp -implicitDefEqProofs (disch := (first | omega | (simp -implicitDefEqProofs only [szs, ne_eq] <;> omega) | fail)) only [go_sem, seval, ↓reduceIte, reduceCtorEq, undefV, l1, l2, k8, ra, cv42_2, c42_2, ew, ew2]
theorem snapshot_ok (hl : LgX h N lp bd fr ct G) (hR : ∀ b, R b) (hb : Byt G.sn) (hn : G.sn.length ≤ 1000000) : SF Try.prog 16 [.ptr (some (lp, 0))] h R W fun r g => Own h.n g r G.sn 5 ∧ ∀ b, b < h.n → g.get b = h.get b := by
  have hl0 := hl
  obtain ⟨⟨c, v11, rv, vs, hl⟩, _, _⟩ := hl
  have l1 := hl.l1
  have l2 := hl.l2
  have ra := hR lp
  have k11 := hl.k11
  have h1 := hl.sd.one
  refine SF.go hm Try.func16 ir16_eq ?_
  simp -implicitDefEqProofs (disch := (first | omega | (simp -implicitDefEqProofs only [szs, ne_eq] <;> omega) | fail)) only [go_sem, seval, ↓reduceIte, reduceCtorEq, ir16]
  refine GCall.of (lthere_ok hl0 fun b => .inr (hR b)) ?_
  rintro r g ⟨rfl, rfl⟩
  simp -implicitDefEqProofs (disch := (first | omega | (simp -implicitDefEqProofs only [szs, ne_eq] <;> omega) | fail)) only [go_sem, seval, ↓reduceIte, reduceCtorEq, undefV, l1, l2, k11, ra, ↓h1]
  refine GCall.of (clone42 hl.sd (fun b => .inr (hR b)) hn hb.allOne) ?_
  rintro r g1 ⟨o1, k1⟩
  simp -implicitDefEqProofs (disch := (first | omega | (simp -implicitDefEqProofs only [szs, ne_eq] <;> omega) | fail)) only [go_sem, seval, ↓reduceIte, reduceCtorEq, undefV]
  exact ⟨o1, k1⟩
set_option maxHeartbeats 8000000 in
theorem room_ok (hl : LgX h N lp bd fr ct G) (hc : 16 ≤ ct ∧ ct ≤ 4096) (hf : fr ≤ 4096) (hR : ∀ b, R b) (ha : G.at' ≤ 1000000) : SF Try.prog 19 [.ptr (some (lp, 0))] h R W fun r g => r = .int .i64 ((((ct - 2) / 2 : Nat) : Int) - (G.at' : Int)) ∧ h.n ≤ g.n ∧ ∀ b, b < h.n → g.get b = h.get b := by
  have hl0 := hl
  obtain ⟨⟨c, v11, rv, vs, hl⟩, _, _⟩ := hl
  have l1 := hl.l1
  have l2 := hl.l2
  have ra := hR lp
  have k9 := hl.k9
  have ew : IntKind.i64.wrap ((((ct - 2) / 2 : Nat) : Int) - (G.at' : Int)) = (((ct - 2) / 2 : Nat) : Int) - (G.at' : Int) := by rw [IntWalk.i64_in] <;> omega
  refine SF.go hm Try.func19 ir19_eq ?_
  simp -implicitDefEqProofs (disch := (first | omega | (simp -implicitDefEqProofs only [szs, ne_eq] <;> omega) | fail)) only [go_sem, seval, ↓reduceIte, reduceCtorEq, ir19]
  refine GCall.of (lthere_ok hl0 fun b => .inr (hR b)) ?_
  rintro r g ⟨rfl, rfl⟩
  simp -implicitDefEqProofs (disch := (first | omega | (simp -implicitDefEqProofs only [szs, ne_eq] <;> omega) | fail)) only [go_sem, seval, ↓reduceIte, reduceCtorEq, undefV]
  refine GCall.of (halves_ok (bd := bd) (fr := fr) (ct := ct) ⟨c, l1, l2, hl.k0, hl.k1, hl.k2⟩ ⟨by omega, by omega⟩ hf fun b => .inr (hR b)) ?_
  rintro r g1 ⟨rfl, n1, k1⟩
  have L1 := (k1 lp (Heap.lt_of_get l1)).trans l1
  have lt1 := Heap.lt_of_get L1
  simp -implicitDefEqProofs (disch := (first | omega | (simp -implicitDefEqProofs only [szs, ne_eq] <;> omega) | fail)) only [go_sem, seval, ↓reduceIte, reduceCtorEq, undefV, L1, l2, k9, ra, ew, n1]
  exact ⟨by omega, fun b hb => by rw [w_set_ne (by simp) (by omega), w_push_ne (by omega), k1 b hb]⟩
set_option maxHeartbeats 8000000 in
theorem sync_ok (hx : DkX h M bd D) (hl : LgX h N lp bd fr ct G) (hMN : ∀ k, N k → ¬ M k) (hc : 16 ≤ ct ∧ fr + ct ≤ D.n) (hR : ∀ b, R b) (hW : ∀ k, M k → W k) (hWl : W lp) (hnx : 1 ≤ G.nx ∧ G.nx < 9223372036854775808) :
    SF Try.prog 14 [.ptr (some (lp, 0))] h R W fun r g => r = .int .i64 0 ∧ TwoQ h g M N lp bd fr ct (D.flush fr ct) { G with sy := G.nx - 1 } := by
  have hl0 := hl
  obtain ⟨⟨c, v11, rv, vs, hl⟩, hlt, hNl⟩ := hl
  have l1 := hl.l1
  have l2 := hl.l2
  have l3 := hl.l3
  have k0 := hl.k0
  have k1 := hl.k1
  have k2 := hl.k2
  have k8 := hl.k8
  have hll := Heap.lt_of_get l1
  have ra := hR lp
  have ew : IntKind.u64.wrap ((G.nx : Int) - 1) = ((G.nx - 1 : Nat) : Int) := by rw [show (G.nx : Int) - 1 = ((G.nx - 1 : Nat) : Int) by omega]; exact wrap64 (by omega)
  refine SF.go hm Try.func14 ir14_eq ?_
  simp -implicitDefEqProofs (disch := (first | omega | (simp -implicitDefEqProofs only [szs, ne_eq] <;> omega) | fail)) only [go_sem, seval, ↓reduceIte, reduceCtorEq, ir14]
  refine GCall.of (lthere_ok hl0 fun b => .inr (hR b)) ?_
  rintro r g ⟨rfl, rfl⟩
  simp -implicitDefEqProofs (disch := (first | omega | (simp -implicitDefEqProofs only [szs, ne_eq] <;> omega) | fail)) only [go_sem, seval, ↓reduceIte, reduceCtorEq, undefV, l1, l2, k0, k1, k2, ra]
  refine GCallD.of (R' := allR) (W' := M) ((flush_dk (R := allR) (W := M) hx (fun _ => trivial) (fun _ h => h) (a := fr) (m := ct) hc.2).foot (fun _ h => h) (fun _ h => h)) ?_
  rintro r3 g3 ⟨rfl, ⟨n3, k3'⟩, M3, hx3, hM3⟩
  have nM : ¬ M lp := hMN lp hNl
  have L3 := (k3' lp hll nM).trans l1
  have hl3 := Heap.lt_of_get L3
  simp -implicitDefEqProofs (disch := (first | omega | (simp -implicitDefEqProofs only [szs, ne_eq] <;> omega) | fail)) only [go_sem, seval, ↓reduceIte, reduceCtorEq, undefV, L3, l2, l3, k8, hWl, ra, ew]
  have nM3 : ¬ M3 lp := fun h1 => (hM3 lp h1).elim nM fun h2 => by omega
  have k7 : ∀ k, k ≠ lp → (g3.set lp (O.cells (c.set 10 (V.int IntKind.u64 ↑(G.nx - 1))) 47)).get k = g3.get k := fun k hk => w_set_ne hl3 hk _
  refine ⟨⟨fun b _ _ => .inr (hR b), fun b _ h => .inr (hW b h)⟩, by rw [Heap.n_set]; exact n3, fun k h1 h2 h3 => ?_, M3, N, hx3.same (by rw [Heap.n_set]; exact Nat.le_refl _) fun k hk => k7 k fun e => nM3 (e ▸ hk), ⟨?_, fun k hk => by rw [Heap.n_set]; have := hlt k hk; omega, hNl⟩, hM3, fun k hk => .inl hk, fun k hk h1 => (hM3 k h1).elim (hMN k hk) fun h2 => by have := hlt k hk; omega⟩
  · rw [k7 k fun e => h3 (e ▸ hNl), k3' k h1 h2]
  · refine LogAt.head (h := g) (c := c) ⟨c, v11, rv, vs, hl⟩ l1 (fun k hk => ?_) (fun k c' hk hN => ?_) (w_set_eq hl3 rfl _) (by simp only [Blk.size_set]; exact l2) (by simp only [Blk.ro_set]; exact l3) (by rw [gets_out (by omega)]; exact hl.k3) (by rw [Blk.get_set, if_pos rfl]) fun j h1 h2 => by rw [Blk.get_set, if_neg h2]
    · obtain ⟨h1, c', h2⟩ := hk
      rw [k7 k fun e => by rw [e, l1] at h2; cases h2]
      exact k3' k (Heap.lt_of_get h2) (hMN k h1)
    · rw [k7 k fun e => by rw [e, l1] at hk; cases hk]
      exact k3' k (Heap.lt_of_get hk) (hMN k hN)
end Go.Proofs.Ytakgjjbmniilhaa
