/- The log: what it tells; Sync. -/
import Derived.Test.YtakgjjbmniilhaaMg7
set_option linter.unusedVariables false
set_option maxRecDepth 100000
set_option linter.unusedVariables false
namespace Go.Proofs.Ytakgjjbmniilhaa
open Go Go.Vm
attribute [-go_sem] qQ
variable {h g : Heap} {R W M N : Set'} {bd lp fr ct : Nat} {D : DS} {G : LgS}
theorem yP (hl : LgX h N lp bd fr ct G) (hR : ∀ b, R b) : SF Try.prog 39 [.ptr (some (lp, 0))] h R W fun r g => r = .bool true ∧ g = h := by
 obtain ⟨⟨c, v11, rv, vs, hl⟩, _, _⟩ := hl
 have l1 := hl.l1
 have l2 := hl.l2
 have k0 := hl.k0
 have ra := hR lp
 refine SF.go hm Try.func39 ir39_eq ?_
 simp -implicitDefEqProofs (disch := omega) only [go_sem, seval, ↓reduceIte, reduceCtorEq, ir39, l1, l2, k0, ra]
def kF (n : Nat) : Nat × Nat := if 6912 < n then (0, 3) else (max 1 ((n + 107) / 108), 0)
theorem parts_ok {S : Set'} {v : V} {l : List V} (hv : LR h S v l) (hl : l.length ≤ 1000000000) : SF Try.prog 9 [v] h R W fun r g => r = .tuple [.int .i64 ((kF l.length).1 : Int), .int .i64 ((kF l.length).2 : Int)] ∧ g = h := by
 have hlen := hv.lenV Try.underlying22
 refine SF.go hm Try.func9 ir9_eq ?_
 by_cases hc : 6912 < l.length
 ·have hc2 : (6912 : Int) < (l.length : Int) := by omega
  simp -implicitDefEqProofs (disch := omega) only [go_sem, seval, ↓reduceIte, reduceCtorEq, ir9, ↓hlen, hc2, kF]
  simp only [if_pos hc]; trivial
 ·have hc2 : ¬ (6912 : Int) < (l.length : Int) := by omega
  have e1 : (l.length : Int) + 108 - 1 = ((l.length + 107 : Nat) : Int) := by omega
  have e2 : (((l.length + 107 : Nat) : Int)).tdiv 108 = (((l.length + 107) / 108 : Nat) : Int) := rfl
  simp -implicitDefEqProofs (disch := omega) only [go_sem, seval, ↓reduceIte, reduceCtorEq, ir9, ↓hlen, hc2, e1, e2]
  have e3 : (if (1 : Int) < (((l.length + 107) / 108 : Nat) : Int) then (((l.length + 107) / 108 : Nat) : Int) else 1) = ((max 1 ((l.length + 107) / 108) : Nat) : Int) := by
   split <;> omega
  rw [e3, show kF l.length = (max 1 ((l.length + 107) / 108), 0) from if_neg hc]
  rfl
theorem rparts_ok {S : Set'} {v : V} {l : List V} (hv : LR h S v l) (hl : l.length ≤ 1000000000) : SF Try.prog 10 [v] h R W fun r g => r = .tuple [.int .i64 ((kF l.length).1 : Int), .int .i64 ((kF l.length).2 : Int)] ∧ g = h := by
 have hlen := hv.lenV Try.underlying22
 refine SF.go hm Try.func10 ir10_eq ?_
 by_cases hc : 6912 < l.length
 ·have hc2 : (6912 : Int) < (l.length : Int) := by omega
  simp -implicitDefEqProofs (disch := omega) only [go_sem, seval, ↓reduceIte, reduceCtorEq, ir10, ↓hlen, hc2, kF]
  simp only [if_pos hc]; trivial
 ·have hc2 : ¬ (6912 : Int) < (l.length : Int) := by omega
  have e1 : (l.length : Int) + 108 - 1 = ((l.length + 107 : Nat) : Int) := by omega
  have e2 : (((l.length + 107 : Nat) : Int)).tdiv 108 = (((l.length + 107) / 108 : Nat) : Int) := rfl
  simp -implicitDefEqProofs (disch := omega) only [go_sem, seval, ↓reduceIte, reduceCtorEq, ir10, ↓hlen, hc2, e1, e2]
  have e3 : (if (1 : Int) < (((l.length + 107) / 108 : Nat) : Int) then (((l.length + 107) / 108 : Nat) : Int) else 1) = ((max 1 ((l.length + 107) / 108) : Nat) : Int) := by
   split <;> omega
  rw [e3, show kF l.length = (max 1 ((l.length + 107) / 108), 0) from if_neg hc]
  rfl
theorem epoch_ok (hl : LgX h N lp bd fr ct G) (hR : ∀ b, R b) (hb : G.H.ep < 9223372036854775808) : SF Try.prog 15 [.ptr (some (lp, 0))] h R W fun r g => r = .int .i64 (G.H.ep : Int) ∧ g = h := by
 have hl0 := hl
 obtain ⟨⟨c, v11, rv, vs, hl⟩, _, _⟩ := hl
 have l1 := hl.l1
 have l2 := hl.l2
 have ra := hR lp
 have c3 : c.get 3 = .int .u64 (G.H.ep : Int) := jG hl.k3 (j := 0) (by omega)
 have ew : IntKind.i64.wrap (G.H.ep : Int) = (G.H.ep : Int) := by rw [IntWalk.i64_in] <;> omega
 refine SF.go hm Try.func15 ir15_eq ?_
 simp -implicitDefEqProofs (disch := omega) only [go_sem, seval, ↓reduceIte, reduceCtorEq, ir15]
 refine qK.of (yP hl0 fun b => .inr (hR b)) ?_
 rintro r g ⟨rfl, rfl⟩
 simp -implicitDefEqProofs (disch := omega) only [go_sem, seval, ↓reduceIte, reduceCtorEq, l1, l2, c3, ra, cv42_2, c42_2, ew]
theorem last_ok (hl : LgX h N lp bd fr ct G) (hR : ∀ b, R b) (hb : G.nx < 9223372036854775808) : SF Try.prog 17 [.ptr (some (lp, 0))] h R W fun r g => r = .int .i64 ((G.nx : Int) - 1) ∧ g = h := by
 have hl0 := hl
 obtain ⟨⟨c, v11, rv, vs, hl⟩, _, _⟩ := hl
 have l1 := hl.l1
 have l2 := hl.l2
 have ra := hR lp
 have k8 := hl.k8
 have ew : IntKind.i64.wrap (G.nx : Int) = (G.nx : Int) := by rw [IntWalk.i64_in] <;> omega
 have ew2 : IntKind.i64.wrap ((G.nx : Int) - 1) = (G.nx : Int) - 1 := by rw [IntWalk.i64_in] <;> omega
 refine SF.go hm Try.func17 ir17_eq ?_
 simp -implicitDefEqProofs (disch := omega) only [go_sem, seval, ↓reduceIte, reduceCtorEq, ir17]
 refine qK.of (yP hl0 fun b => .inr (hR b)) ?_
 rintro r g ⟨rfl, rfl⟩
 simp -implicitDefEqProofs (disch := omega) only [go_sem, seval, ↓reduceIte, reduceCtorEq, l1, l2, k8, ra, cv42_2, c42_2, ew, ew2]
theorem synced_ok (hl : LgX h N lp bd fr ct G) (hR : ∀ b, R b) (hb : G.sy < 9223372036854775808) : SF Try.prog 20 [.ptr (some (lp, 0))] h R W fun r g => r = .int .i64 (G.sy : Int) ∧ g = h := by
 have hl0 := hl
 obtain ⟨⟨c, v11, rv, vs, hl⟩, _, _⟩ := hl
 have l1 := hl.l1
 have l2 := hl.l2
 have ra := hR lp
 have k10 := hl.k10
 have ew : IntKind.i64.wrap (G.sy : Int) = (G.sy : Int) := by rw [IntWalk.i64_in] <;> omega
 refine SF.go hm Try.func20 ir20_eq ?_
 simp -implicitDefEqProofs (disch := omega) only [go_sem, seval, ↓reduceIte, reduceCtorEq, ir20]
 refine qK.of (yP hl0 fun b => .inr (hR b)) ?_
 rintro r g ⟨rfl, rfl⟩
 simp -implicitDefEqProofs (disch := omega) only [go_sem, seval, ↓reduceIte, reduceCtorEq, l1, l2, k10, ra, cv42_2, c42_2, ew]
theorem snapshot_ok (hl : LgX h N lp bd fr ct G) (hR : ∀ b, R b) (hb : Byt G.sn) (hn : G.sn.length ≤ 1000000) : SF Try.prog 16 [.ptr (some (lp, 0))] h R W fun r g => Own h.n g r G.sn 5 ∧ ∀ b, b < h.n → g.get b = h.get b := by
 have hl0 := hl
 obtain ⟨⟨c, v11, rv, vs, hl⟩, _, _⟩ := hl
 have l1 := hl.l1
 have l2 := hl.l2
 have ra := hR lp
 have k11 := hl.k11
 have h1 := hl.sd.one
 refine SF.go hm Try.func16 ir16_eq ?_
 simp -implicitDefEqProofs (disch := omega) only [go_sem, seval, ↓reduceIte, reduceCtorEq, ir16]
 refine qK.of (yP hl0 fun b => .inr (hR b)) ?_
 rintro r g ⟨rfl, rfl⟩
 simp -implicitDefEqProofs (disch := omega) only [go_sem, seval, ↓reduceIte, reduceCtorEq, l1, l2, k11, ra]
 refine qK.of (clone42 hl.sd (fun b => .inr (hR b)) hn hb.allOne) ?_
 rintro r g1 ⟨o1, k1⟩
 simp -implicitDefEqProofs (disch := omega) only [go_sem, seval, ↓reduceIte, reduceCtorEq]
 exact ⟨o1, k1⟩
set_option maxHeartbeats 8000000 in
theorem room_ok (hl : LgX h N lp bd fr ct G) (hc : 16 ≤ ct ∧ ct ≤ 4096) (hf : fr ≤ 4096) (hR : ∀ b, R b) (ha : G.at' ≤ 1000000) : SF Try.prog 19 [.ptr (some (lp, 0))] h R W fun r g => r = .int .i64 ((((ct - 2) / 2 : Nat) : Int) - (G.at' : Int)) ∧ h.n ≤ g.n ∧ ∀ b, b < h.n → g.get b = h.get b := by
 have hl0 := hl
 obtain ⟨⟨c, v11, rv, vs, hl⟩, _, _⟩ := hl
 have l1 := hl.l1
 have l2 := hl.l2
 have ra := hR lp
 have k9 := hl.k9
 have ew : IntKind.i64.wrap ((((ct - 2) / 2 : Nat) : Int) - (G.at' : Int)) = (((ct - 2) / 2 : Nat) : Int) - (G.at' : Int) := by rw [IntWalk.i64_in] <;> omega
 refine SF.go hm Try.func19 ir19_eq ?_
 simp -implicitDefEqProofs (disch := first | omega | (simp -implicitDefEqProofs only [szs, ne_eq] <;> omega) | fail) only [go_sem, seval, ↓reduceIte, reduceCtorEq, ir19]
 refine qK.of (yP hl0 fun b => .inr (hR b)) ?_
 rintro r g ⟨rfl, rfl⟩
 simp -implicitDefEqProofs (disch := first | omega | (simp -implicitDefEqProofs only [szs, ne_eq] <;> omega) | fail) only [go_sem, seval, ↓reduceIte, reduceCtorEq]
 refine qK.of (halves_ok (bd := bd) (fr := fr) (ct := ct) ⟨c, l1, l2, hl.k0, hl.k1, hl.k2⟩ ⟨by omega, by omega⟩ hf fun b => .inr (hR b)) ?_
 rintro r g1 ⟨rfl, n1, k1⟩
 have L1 := (k1 lp (Heap.lt_of_get l1)).trans l1
 have lt1 := Heap.lt_of_get L1
 simp -implicitDefEqProofs (disch := first | omega | (simp -implicitDefEqProofs only [szs, ne_eq] <;> omega) | fail) only [go_sem, seval, ↓reduceIte, reduceCtorEq, qE, L1, l2, k9, ra, ew, n1]
 exact ⟨by omega, fun b hb => by rw [qB (by simp) (by omega), qC (by omega), k1 b hb]⟩
set_option maxHeartbeats 8000000 in
theorem sync_ok (hx : DkX h M bd D) (hl : LgX h N lp bd fr ct G) (hMN : ∀ k, N k → ¬ M k) (hc : 16 ≤ ct ∧ fr + ct ≤ D.n) (hR : ∀ b, R b) (hW : ∀ k, M k → W k) (hWl : W lp) (hnx : 1 ≤ G.nx ∧ G.nx < 9223372036854775808) :
  SF Try.prog 14 [.ptr (some (lp, 0))] h R W fun r g => r = .int .i64 0 ∧ TwoQ h g M N lp bd fr ct (D.flush fr ct) { G with sy := G.nx - 1 } := by
 have hl0 := hl
 obtain ⟨⟨c, v11, rv, vs, hl⟩, hlt, hNl⟩ := hl
 have l1 := hl.l1
 have l2 := hl.l2
 have l3 := hl.l3
 have k0 := hl.k0
 have k1 := hl.k1
 have k2 := hl.k2
 have k8 := hl.k8
 have hll := Heap.lt_of_get l1
 have ra := hR lp
 have ew : IntKind.u64.wrap ((G.nx : Int) - 1) = ((G.nx - 1 : Nat) : Int) := by rw [show (G.nx : Int) - 1 = ((G.nx - 1 : Nat) : Int) by omega]; exact wrap64 (by omega)
 refine SF.go hm Try.func14 ir14_eq ?_
 simp -implicitDefEqProofs (disch := first | omega | (simp -implicitDefEqProofs only [szs, ne_eq] <;> omega) | fail) only [go_sem, seval, ↓reduceIte, reduceCtorEq, ir14]
 refine qK.of (yP hl0 fun b => .inr (hR b)) ?_
 rintro r g ⟨rfl, rfl⟩
 simp -implicitDefEqProofs (disch := first | omega | (simp -implicitDefEqProofs only [szs, ne_eq] <;> omega) | fail) only [go_sem, seval, ↓reduceIte, reduceCtorEq, l1, l2, k0, k1, k2]
 refine qN.of (R' := qR) (W' := M) ((flush_dk (R := qR) (W := M) hx (fun _ => trivial) (fun _ h => h) (a := fr) (m := ct) hc.2).foot (fun _ h => h) (fun _ h => h)) ?_
 rintro r3 g3 ⟨rfl, ⟨n3, k3'⟩, M3, hx3, hM3⟩
 have nM : ¬ M lp := hMN lp hNl
 have L3 := (k3' lp hll nM).trans l1
 have hl3 := Heap.lt_of_get L3
 simp -implicitDefEqProofs (disch := first | omega | (simp -implicitDefEqProofs only [szs, ne_eq] <;> omega) | fail) only [go_sem, seval, ↓reduceIte, reduceCtorEq, qE, L3, l2, l3, k8, hWl, ra, ew]
 have nM3 : ¬ M3 lp := fun h1 => (hM3 lp h1).elim nM fun h2 => by omega
 have k7 : ∀ k, k ≠ lp → (g3.set lp (O.cells (c.set 10 (V.int IntKind.u64 ↑(G.nx - 1))) 47)).get k = g3.get k := fun k hk => qB hl3 hk _
 refine ⟨⟨fun b _ _ => .inr (hR b), fun b _ h => .inr (hW b h)⟩, by rw [Heap.n_set]; exact n3, fun k h1 h2 h3 => ?_, M3, N, hx3.same (by rw [Heap.n_set]; exact Nat.le_refl _) fun k hk => k7 k fun e => nM3 (e ▸ hk), ⟨?_, fun k hk => by rw [Heap.n_set]; have := hlt k hk; omega, hNl⟩, hM3, fun k hk => .inl hk, fun k hk h1 => (hM3 k h1).elim (hMN k hk) fun h2 => by have := hlt k hk; omega⟩
 ·rw [k7 k fun e => h3 (e ▸ hNl), k3' k h1 h2]
 ·refine LogAt.head (h := g) (c := c) ⟨c, v11, rv, vs, hl⟩ l1 (fun k hk => ?_) (fun k c' hk hN => ?_) (qF hl3 rfl _) (by simp only [Blk.size_set]; exact l2) (by simp only [Blk.qY]; exact l3) (by rw [zI (by omega)]; exact hl.k3) (by rw [Blk.get_set, if_pos rfl]) fun j h1 h2 => by rw [Blk.get_set, if_neg h2]
  ·obtain ⟨h1, c', h2⟩ := hk
   rw [k7 k fun e => by rw [e, l1] at h2; cases h2]
   exact k3' k (Heap.lt_of_get h2) (hMN k h1)
  ·rw [k7 k fun e => by rw [e, l1] at hk; cases hk]
   exact k3' k (Heap.lt_of_get hk) (hMN k hN)
end Go.Proofs.Ytakgjjbmniilhaa
set_option maxRecDepth 100000
set_option linter.unusedVariables false
namespace Go.Proofs.Ytakgjjbmniilhaa
open Go Go.Vm
attribute [-go_sem] qQ
variable {h g : Heap} {R W M N : Set'} {bd lp fr ct : Nat} {D : DS} {G : LgS}
end Go.Proofs.Ytakgjjbmniilhaa
set_option maxRecDepth 100000
set_option linter.unusedVariables false
namespace Go.Proofs.Ytakgjjbmniilhaa
open Go Go.Vm
attribute [-go_sem] qQ
variable {h g : Heap} {R W M N : Set'} {bd lp fr ct : Nat} {D : DS} {G : LgS}
def xU : V → Prop
 | .slice _ n c _ => n ≤ c
 | _ => True
theorem cut_lr {S : Set'} {v : V} {l : List V} (hv : LR h S v l) (hc : xU v) {k : Nat} (hk : k ≤ l.length) : ∃ v', kC Try.prog 22 v none (some (k : Int)) none = some v' ∧ LR h S v' (l.take k) := by
 have hlt : (l.take k).length = k := by rw [List.length_take]; omega
 rcases hv with ⟨rfl, rfl | ⟨a, rfl⟩⟩ | ⟨b, o, cap, ex, c, ce, rfl, hR, hb, hs, hg⟩
 ·obtain rfl : k = 0 := by simpa using hk
  exact ⟨_, by simp only [kC, Try.underlying22, sz_5]; rfl, .inl ⟨rfl, .inl rfl⟩⟩
 ·obtain rfl : k = 0 := by simpa using hk
  exact ⟨_, by simp only [kC, Try.underlying22, sz_5]; rfl, .inl ⟨rfl, .inr ⟨a, rfl⟩⟩⟩
 ·have hcl : l.length ≤ cap := hc
  have hbv : kJ l.length cap none (some (k : Int)) none = some (0, k, cap) := by
   simp only [kJ, Int.toNat_natCast]
   rw [if_pos (by omega)]
  refine ⟨.slice (some (b, o)) k cap ex, ?_, .inr ⟨b, o, cap, ex, c, ce, by rw [hlt], hR, hb, by omega, ?_⟩⟩
  ·simp only [kC, Try.underlying22, sz_5, hbv]
   cases ex with
   | true => simp only [Nat.zero_mul, Nat.sub_zero]; cases Nat.beq cap 0 <;> rfl
   | false => rw [if_pos ⟨hcl, .inr trivial⟩]; rfl
  ·rw [hlt]
   refine Blk.jH (fun j hj => ?_) hlt.symm
   rw [hlt] at hj
   have := Blk.qM c l.length o j (by omega)
   rw [hg] at this
   rw [List.getD_eq_getElem?_getD, List.getElem?_take, if_pos hj, this]; rfl
theorem rest_lr {S : Set'} {v : V} {l : List V} (hv : LR h S v l) (hc : xU v) {k : Nat} (hk : k ≤ l.length) : ∃ v', kC Try.prog 22 v (some (k : Int)) none none = some v' ∧ (k < l.length → LR h S v' (l.drop k) ∧ xU v') := by
 rcases hv with ⟨rfl, rfl | ⟨a, rfl⟩⟩ | ⟨b, o, cap, ex, c, ce, rfl, hR, hb, hs, hg⟩
 ·obtain rfl : k = 0 := by simpa using hk
  exact ⟨_, by simp only [kC, Try.underlying22, sz_5]; rfl, fun h => by cases h⟩
 ·obtain rfl : k = 0 := by simpa using hk
  exact ⟨_, by simp only [kC, Try.underlying22, sz_5]; rfl, fun h => by cases h⟩
 ·have hcl : l.length ≤ cap := hc
  have hbv : kJ l.length cap (some (k : Int)) none none = some (k, l.length, cap) := by
   simp only [kJ, Int.toNat_natCast]
   rw [if_pos (by omega)]
  by_cases hkl : k < l.length
  ·have hbe : Nat.beq cap k = false := w_beq_f (by omega)
   have hbl : Nat.blt k cap = true := w_blt_t (by omega)
   refine ⟨.slice (some (b, o + k * 1)) (l.length - k) (cap - k) ex, ?_, fun _ => ⟨.inr ⟨b, o + k, cap - k, ex, c, ce, by rw [List.length_drop, Nat.mul_one], hR, hb, by rw [List.length_drop]; omega, ?_⟩, by show _ ≤ _; omega⟩⟩
   ·simp only [kC, Try.underlying22, sz_5, hbv]
    cases ex with
    | true => simp only [hbe]
    | false => simp only [hbl]; rw [if_pos ⟨hcl, .inl trivial⟩]
   ·refine Blk.jH (fun j hj => ?_) rfl
    rw [List.length_drop] at hj
    have := Blk.qM c l.length o (k + j) (by omega)
    rw [hg] at this
    rw [List.getD_eq_getElem?_getD, List.getElem?_drop, this, show o + k + j = o + (k + j) by omega]; rfl
  ·obtain rfl : k = l.length := by omega
   cases ex with
   | true => exact ⟨_, by simp only [kC, Try.underlying22, sz_5, hbv]; rfl, fun h => by omega⟩
   | false =>
    by_cases h1 : l.length < cap ∨ l.length = 0
    ·refine ⟨_, by simp only [kC, Try.underlying22, sz_5, hbv]; rw [if_pos ⟨hcl, h1.imp (fun h => w_blt_t h) id⟩], fun h => by omega⟩
    ·have hb2 : Nat.blt l.length cap = false := w_blt_f (by omega)
     refine ⟨_, by simp only [kC, Try.underlying22, sz_5, hbv]; rw [if_neg (by rw [hb2]; rintro ⟨_, h2 | h2⟩; cases h2; omega), if_pos ⟨by omega, trivial⟩], fun h => by omega⟩
def zN (l : List V) (i : Nat) : List V := (l.drop (108 * i)).take 108
def appW (D : DS) (fr ct : Nat) (G : LgS) (l : List V) (n : Nat) : Nat → DS
 | 0 => D
 | i + 1 => (appW D fr ct G l n i).write (fr + 2 + G.H.ha * ((ct - 2) / 2) + G.at' + i) (kV G.nx G.H.ep i n (zN l i))
theorem appW_n (D : DS) (fr ct : Nat) (G : LgS) (l : List V) (n : Nat) : ∀ k, (appW D fr ct G l n k).n = D.n
 | 0 => rfl
 | k + 1 => appW_n D fr ct G l n k
theorem appW_pe (D : DS) (fr ct : Nat) (G : LgS) (l : List V) (n : Nat) : ∀ k s, fr + 2 + G.H.ha * ((ct - 2) / 2) + G.at' + k ≤ s → (appW D fr ct G l n k).pe s = D.pe s
 | 0, _, _ => rfl
 | k + 1, s, h => by
  show (if s = _ then _ else _) = _
  rw [if_neg (by omega)]
  exact appW_pe D fr ct G l n k s (by omega)
set_option maxHeartbeats 8000000 in
theorem app_loop {Q : Ex → Fr → Heap → Prop} {t : List It} {g2 : Heap} {bb n : Nat} {S : Set'} {v : V} {l : List V} {tr : Tr V} {ca : Blk} (hR : ∀ b, R b) (hW : ∀ k, M k ∨ g2.n ≤ k → W k)
  (hx : DkX g2 M bd D) (hl : LgX g2 N lp bd fr ct G) (hMN : ∀ k, N k → ¬ M k)
  (t0 : tr.get 0 = some (.ptr (some (lp, 0)))) (t6 : tr.get 6 = some (.int .i64 (n : Int))) (t8 : tr.get 8 = some (.ptr (some (bb, 0)))) (t10 : tr.get 10 = some v) (t36 : tr.get 36 = some (.int .i64 (n : Int))) (t37 : tr.get 37 = some (.int .i64 0)) (t1 : tr.get 1 = some v)
  (a1 : g2.get bb = some (.cells ca 86)) (a2 : ca.size = 2) (a3 : ca.get 0 = .int .i64 ((fr + 2 : Nat) : Int)) (a4 : ca.get 1 = .int .i64 ((fr + 2 + (ct - 2) / 2 : Nat) : Int)) (hbb : ¬ M bb)
  (hv : LR g2 S v l) (hS : ∀ k, S k → k < g2.n ∧ ¬ M k) (hcap : xU v) (hby : Byt l)
  (hc : 16 ≤ ct ∧ fr + ct ≤ D.n) (hD : D.n ≤ 4096) (hha : G.H.ha < 2) (hn : n + G.at' ≤ (ct - 2) / 2) (hln : n = max 1 ((l.length + 107) / 108)) (hn64 : n ≤ 64) (hnx : G.nx < 18446744073709551616 ∧ G.H.ep < 18446744073709551616) (few : ∀ s, (D.pe s).length < 1000000000)
  (hk : ∀ tr g M', tr.get 0 = some (.ptr (some (lp, 0))) → tr.get 1 = some v → tr.get 6 = some (.int .i64 (n : Int)) → g2.n ≤ g.n → (∀ k, k < g2.n → ¬ M k → g.get k = g2.get k) → DkX g M' bd (appW D fr ct G l n n) → (∀ k, M' k → M k ∨ g2.n ≤ k) → resume (Try.prog : MP) R W none Q t (.exit 1) ⟨⟨116, tr⟩, []⟩ g) :
  kE (Try.prog : MP) R W none Q ir13_l0 t ⟨⟨116, tr⟩, []⟩ g2 := by
 refine kE.inv hm (fun k f g => f.mks = [] ∧ f.tm.n = 116 ∧ f.tm.get 0 = some (.ptr (some (lp, 0))) ∧ f.tm.get 1 = some v ∧ f.tm.get 6 = some (.int .i64 (n : Int)) ∧ f.tm.get 8 = some (.ptr (some (bb, 0))) ∧ f.tm.get 36 = some (.int .i64 (n : Int)) ∧ ∃ (i : Nat) (w : V) (Mi : Set'), i + k = n ∧ f.tm.get 37 = some (.int .i64 (i : Int)) ∧ f.tm.get 10 = some w ∧ (i < n → LR g S w (l.drop (108 * i)) ∧ xU w) ∧ g2.n ≤ g.n ∧ (∀ k, k < g2.n → ¬ M k → g.get k = g2.get k) ∧ DkX g Mi bd (appW D fr ct G l n i) ∧ ∀ k, Mi k → M k ∨ g2.n ≤ k) n ?_ ?_
 ·exact ⟨rfl, rfl, t0, t1, t6, t8, t36, 0, v, M, by omega, t37, t10, fun _ => ⟨hv, hcap⟩, Nat.le_refl _, fun _ _ _ => rfl, hx, fun k hk => .inl hk⟩
 clear t0 t1 t6 t8 t10 t36 t37
 clear tr
 rintro k ⟨⟨n', tr⟩, mks⟩ g ⟨hmk, hn', t0, t1, t6, t8, t36, i, w, Mi, hik, t37, t10, hw, hng, kg, hxi, hMi⟩
 simp only [Tm.kL] at hmk hn' t0 t1 t6 t8 t36 t37 t10
 subst hmk hn'
 by_cases hi : i < n
 rotate_left
 ·have hci : ¬ (i : Int) < (n : Int) := by omega
  obtain rfl : i = n := by omega
  simp -implicitDefEqProofs (disch := omega) only [go_sem, seval, ↓reduceIte, ir13_l0, t36, t37, hci]
  exact hk _ _ Mi (by simp -implicitDefEqProofs (disch := omega) only [go_sem, seval, ↓reduceIte, reduceCtorEq, t0]) (by simp -implicitDefEqProofs (disch := omega) only [go_sem, seval, ↓reduceIte, t1]) (by simp -implicitDefEqProofs (disch := omega) only [go_sem, seval, ↓reduceIte, t6]) hng kg hxi hMi
 have hci : (i : Int) < (n : Int) := by omega
 obtain ⟨hwl, hwc⟩ := hw hi
 obtain ⟨⟨cl, v11, rv, vs, hl⟩, hlt, hNl⟩ := hl
 have l1 := hl.l1
 have l2 := hl.l2
 have k0 := hl.k0
 have k8 := hl.k8
 have k9 := hl.k9
 have nM := hMN lp hNl
 have c3 : cl.get 3 = .int .u64 (G.H.ep : Int) := jG hl.k3 (j := 0) (by omega)
 have c5 : cl.get 5 = .int .u64 (G.H.ha : Int) := jG hl.k3 (j := 2) (by omega)
 have hA : (G.H.ha : Int) < ((2 : Nat) : Int) := by omega
 have hA0 : (0 : Int) ≤ (G.H.ha : Int) := by omega
 have ag : ca.get G.H.ha = .int .i64 ((fr + 2 + G.H.ha * ((ct - 2) / 2) : Nat) : Int) := by
  have : G.H.ha = 0 ∨ G.H.ha = 1 := by omega
  rcases this with e | e <;> rw [e]
  ·rw [a3, Nat.zero_mul, Nat.add_zero]
  ·rw [a4, Nat.one_mul]
 have e1 : ((fr + 2 + G.H.ha * ((ct - 2) / 2) : Nat) : Int) + (G.at' : Int) = ((fr + 2 + G.H.ha * ((ct - 2) / 2) + G.at' : Nat) : Int) := by omega
 have e2 : ((fr + 2 + G.H.ha * ((ct - 2) / 2) + G.at' : Nat) : Int) + (i : Int) = ((fr + 2 + G.H.ha * ((ct - 2) / 2) + G.at' + i : Nat) : Int) := by omega
 have hsn : fr + 2 + G.H.ha * ((ct - 2) / 2) + G.at' + i < D.n := by
  have : G.H.ha * ((ct - 2) / 2) + (G.at' + i) < 2 * ((ct - 2) / 2) := by
   have : G.H.ha = 0 ∨ G.H.ha = 1 := by omega
   rcases this with e | e <;> rw [e] <;> omega
  omega
 have hmulu : fr + 2 + G.H.ha * ((ct - 2) / 2) + G.at' + i < 4096 := by omega
 have hbl : G.H.ha < ca.size := by omega
 have L1 := (kg lp (Heap.lt_of_get l1) nM).trans l1
 have A1 := (kg bb (Heap.lt_of_get a1) hbb).trans a1
 have ra := hR lp
 have rb := hR bb
 have hll := Heap.lt_of_get L1
 have hlb := Heap.lt_of_get A1
 have hdl : (l.drop (108 * i)).length = l.length - 108 * i := List.length_drop
 obtain ⟨kk, ekk⟩ : ∃ kk, kk = min (l.length - 108 * i) 108 := ⟨_, rfl⟩
 have hlen := hwl.lenV Try.underlying22
 rw [hdl] at hlen
 obtain ⟨w1, hs1, hw1⟩ := cut_lr hwl hwc (k := kk) (by rw [hdl]; omega)
 obtain ⟨w2, hs2, hw2⟩ := rest_lr hwl hwc (k := kk) (by rw [hdl]; omega)
 have hmin : (if (108 : Int) < ((l.length - 108 * i : Nat) : Int) then (108 : Int) else ((l.length - 108 * i : Nat) : Int)) = (kk : Int) := by
  split <;> omega
 have hch : (l.drop (108 * i)).take kk = zN l i := by
  unfold zN
  by_cases h1 : l.length - 108 * i ≤ 108
  ·rw [List.take_of_length_le (by omega), List.take_of_length_le (by omega)]
  ·rw [show kk = 108 by omega]
 rw [hch] at hw1
 have ei : IntKind.u8.wrap (i : Int) = (i : Int) := by rw [wrap8, Nat.mod_eq_of_lt (by omega)]
 have en : IntKind.u8.wrap (n : Int) = (n : Int) := by rw [wrap8, Nat.mod_eq_of_lt (by omega)]
 simp -implicitDefEqProofs (disch := omega) only [go_sem, Nat.reduceAdd, Nat.reduceEqDiff, Nat.reduceLeDiff, ↓reduceIte, reduceCtorEq, ir13_l0, t0, t6, t8, t10, t36, t37, hci, ↓hlen, ↓hmin, L1, l2, k0, k8, k9, c3, c5, hA, hA0, A1, a2, ag, e1, e2, ↓cvd3_5, c3_5, ei, en, hs1]
 refine qN.of (SF.foot (part_ok (R := qR) (W := noW) (num := G.nx) (ep := G.H.ep) (pl := i) (of := n) (by omega) (by omega) hw1 (by unfold zN; rw [List.length_take]; omega) ((hby.drop _).take _) (fun _ => trivial)).kept (fun _ h => h) (fun _ h => h)) ?_
 rintro r1 g1 ⟨⟨o1, n1, k1⟩, _⟩
 simp -implicitDefEqProofs (disch := omega) only [go_sem, seval, ↓reduceIte]
 have hcl : (zN l i).length ≤ 108 := by unfold zN; rw [List.length_take]; omega
 refine qN.of (R' := qR) (W' := Mi) ((write_dk (R := qR) (W := Mi) (hxi.old n1 k1) (fun _ => trivial) (fun _ h => h) (by rw [appW_n]; exact hsn) o1.lr (part_len _ _ _ _ hcl) (yT _ _ _ _ ((hby.drop _).take _)) (by rw [appW_pe D fr ct G l n i _ (Nat.le_refl _)]; exact few _)).foot (fun _ h => h) (fun _ h => h)) ?_
 rintro r2 g3 ⟨rfl, ⟨n3, k3⟩, M3, hx3, hM3⟩
 simp -implicitDefEqProofs (disch := omega) only [go_sem, seval, ↓reduceIte, reduceCtorEq, t0, t1, t6, t8, t10, t36, t37, hs2]
 refine ⟨by (and_intros; all_goals (intro b hb hc; simp only [noW, qR, List.not_mem_nil, and_false, false_or, or_false] at hb hc <;> omega)), ⟨fun _ => ra, fun _ => ra, fun _ => rb, fun _ => ra, fun _ => ra, fun _ => ra, fun b _ _ => hR b, fun b _ h => h.elim, fun b _ _ => hR b, fun b _ h => hW b (hMi b h)⟩, k - 1, by omega, i + 1, w2, M3, by omega, by simp, rfl, fun h1 => ?_, by omega, fun k h1 h2 => ?_, hx3, fun k hk => ?_⟩
 ·have hkk : kk = 108 := by omega
  obtain ⟨q1, q2⟩ := hw2 (by omega)
  rw [List.drop_drop, hkk, show 108 * i + 108 = 108 * (i + 1) by omega] at q1
  refine ⟨q1.same fun b hb hbn => ?_, q2⟩
  obtain ⟨s1, s2⟩ := hS b hb
  rw [k3 b (by omega) fun h3 => (hMi b h3).elim s2 fun h4 => by omega, k1 b hbn]
 ·rw [k3 k (by omega) fun h3 => (hMi k h3).elim h2 fun h4 => by omega, k1 k (by omega), kg k h1 h2]
 ·rcases hM3 k hk with h1 | h1
  ·exact hMi k h1
  ·exact .inr (by omega)
end Go.Proofs.Ytakgjjbmniilhaa
set_option maxRecDepth 100000
set_option linter.unusedVariables false
namespace Go.Proofs.Ytakgjjbmniilhaa
open Go Go.Vm
attribute [-go_sem] qQ
variable {h g : Heap} {R W M N : Set'} {bd lp fr ct : Nat} {D : DS} {G : LgS}
theorem app_rec {N : Set'} {rv x : V} {vs : List V} (ho : Own 0 h rv vs 22) (hn : rv = .slice none 0 0 true ∨ N (sblk rv)) (hx : x.one = true) (hv : vs.length ≤ 1000000) (hpos : 0 < h.n) :
  ∃ v' h' r w, appE 22 1 24 rv (.slice (some (h.n, 0)) 1 1 true) (h.push (.cells (Blk.of [x]) 22)) = some ⟨v', h', r, w⟩ ∧ Own 0 h' v' (vs ++ [x]) 22 ∧ h.n + 1 ≤ h'.n ∧ (∀ b, b < h.n → b ∉ w → h'.get b = h.get b) ∧ (∀ b ∈ w, N b ∧ ∃ c, h.get b = some (.cells c 22)) ∧ (N (sblk v') ∨ h.n ≤ sblk v') := by
 have hfo : kT (h.push (.cells (Blk.of [x]) 22)) 1 [x].length (.slice (some (h.n, 0)) 1 1 true) = some ([x], [h.n]) := yO (qH rfl _)
 have hone : allOne [x] = true := by simp only [allOne, hx]
 rcases hn with rfl | hn
 ·have hvs : vs = [] := by
   rcases ho with ⟨h5, _⟩ | ⟨_, _, _, _, h5, _⟩
   ·exact h5
   ·cases h5
  subst hvs
  obtain ⟨v2, G, rr, ww, hap, ho2, nG, lG, wG, kG, tG⟩ := jK (bytes := 24) (h := h.push (.cells (Blk.of [x]) 22)) (x := .slice (some (h.n, 0)) 1 1 true) (Own.nil h.n _ 22) (by rw [Heap.qG]; omega) rfl hfo hone (by simp) (by simp)
  have hww := appE_w hap
  have hno : ∀ b ∈ ww, False := fun b hb => by
   have h1 := wG b hb
   have h2 := hww b hb
   simp only [sblk] at h2
   omega
  refine ⟨v2, G, rr, ww, hap, ho2.mono (Nat.zero_le _), nG, fun b h1 h2 => ?_, fun b h1 => (hno b h1).elim, ?_⟩
  ·rw [kG b (by rw [Heap.qG]; omega) h2, qC (by omega)]
  ·rcases Own.nb ho2 with h3 | h3
   ·exfalso
    rw [h3] at ho2
    rcases ho2 with ⟨h5, _⟩ | ⟨_, _, _, _, h5, _⟩
    ·simp at h5
    ·cases h5
   ·exact .inr h3
 ·have hsl := ho.sblk_lt hpos
  obtain ⟨v2, G, rr, ww, hap, ho2, nG, lG, wG, kG, tG⟩ := jK (bytes := 24) (h := h.push (.cells (Blk.of [x]) 22)) (x := .slice (some (h.n, 0)) 1 1 true) (ho.old fun b hb => by rw [qC (by omega)]) (Nat.zero_le _) rfl hfo hone (by simp only [List.length_cons, List.length_nil]; omega) (by simp only [List.length_cons, List.length_nil]; omega)
  have hsb := appE_blk hap
  have hww := appE_w hap
  simp only [Heap.qG] at hsb hww
  refine ⟨v2, G, rr, ww, hap, ho2, nG, fun b h1 h2 => ?_, fun b h1 => ⟨hww b h1 ▸ hn, ?_⟩, ?_⟩
  ·rw [kG b (by rw [Heap.qG]; omega) h2, qC (by omega)]
  ·obtain ⟨c, h2⟩ := tG b h1
   rw [qC (by have := hww b h1; omega)] at h2
   exact ⟨c, h2⟩
  ·rcases hsb with h1 | h1
   ·rw [h1]; exact .inl hn
   ·right; omega
def AppQ (h : Heap) (M N : Set') (lp bd fr ct : Nat) (D : DS) (G : LgS) (l : List V) (r : V) (g : Heap) : Prop :=
 if 6912 < l.length then r = .tuple [.int .i64 0, .int .i64 3] ∧ h.n ≤ g.n ∧ ∀ k, k < h.n → g.get k = h.get k
 else if (ct - 2) / 2 < (kF l.length).1 + G.at' then r = .tuple [.int .i64 0, .int .i64 5] ∧ h.n ≤ g.n ∧ ∀ k, k < h.n → g.get k = h.get k
 else r = .tuple [.int .i64 (G.nx : Int), .int .i64 0] ∧ TwoQ h g M N lp bd fr ct (appW D fr ct G l (kF l.length).1 (kF l.length).1) { G with at' := G.at' + (kF l.length).1, nx := G.nx + 1, rs := G.rs ++ [l] }
noncomputable def ir13_w : LC := (pk (fun l0 => atP (ir0 Try.f13 [l0] []) [1, 1, 1, 1, 1, 1, 1]) _) ir13_l0
noncomputable def ir13_c : LC := (pk (fun l0 p0 => jX (ir0 Try.f13 [l0] []) [1, 1, 1, 1, 1, 1, 1] p0) _) ir13_l0 ir13_w
theorem ir13_c_eq : ir13 = ir13_c := rfl
theorem LgX.keep (hl : LgX h N lp bd fr ct G) (hn : h.n ≤ g.n) (hk : ∀ k, k < h.n → N k → g.get k = h.get k) : LgX g N lp bd fr ct G := by
 obtain ⟨ha, hlt, hNl⟩ := hl
 obtain ⟨c, v11, rv, vs, hl⟩ := ha
 exact ⟨LogAt.head ⟨c, v11, rv, vs, hl⟩ hl.l1 (fun k hk' => hk k (hlt k hk'.1) hk'.1) (fun k c' h1 h2 => hk k (hlt k h2) h2) ((hk lp (hlt lp hNl) hNl).trans hl.l1) hl.l2 hl.l3 hl.k3 hl.k10 fun _ _ _ => rfl, fun k hk' => Nat.lt_of_lt_of_le (hlt k hk') hn, hNl⟩
structure TailQ (g g' : Heap) (lp : Nat) (N : Set') : Prop where
 n : g.n ≤ g'.n
 k : ∀ k, k < g.n → k ≠ lp → ¬ (N k ∧ ∃ c, g.get k = some (.cells c 22)) → g'.get k = g.get k
set_option maxHeartbeats 8000000 in
theorem app_tail {Q : Ex → Fr → Heap → Prop} {g : Heap} {n : Nat} {S : Set'} {v : V} {l : List V} {tr : Tr V} (hR : ∀ b, R b) (hW : ∀ k, N k ∨ g.n ≤ k → W k) (hl : LgX g N lp bd fr ct G)
  (t0 : tr.get 0 = some (.ptr (some (lp, 0)))) (t6 : tr.get 6 = some (.int .i64 (n : Int))) (t1 : tr.get 1 = some v)
  (hv : LR g S v l) (hS : ∀ k, S k → ¬ N k) (hby : Byt l) (hll : l.length ≤ 1000000) (hn : n ≤ 1000000) (hat : G.at' ≤ 1000000) (hnx : G.nx < 9223372036854775807) (hrs : G.rs.length ≤ 1000000)
  (hk : ∀ tr g', tr.get 4 = some (.int .i64 (G.nx : Int)) → tr.get 5 = some (.int .i64 0) → TailQ g g' lp N → (∃ N', LgX g' N' lp bd fr ct { G with at' := G.at' + n, nx := G.nx + 1, rs := G.rs ++ [l] } ∧ ∀ k, N' k → N k ∨ g.n ≤ k) → Q .ret ⟨⟨116, tr⟩, []⟩ g') :
  GO (Try.prog : MP) R W none Q [.code ir13_w] ⟨⟨116, tr⟩, []⟩ g := by
 obtain ⟨⟨c, v11, rv, vs, hl⟩, hlt, hNl⟩ := hl
 have l1 := hl.l1
 have l2 := hl.l2
 have l3 := hl.l3
 have k9 := hl.k9
 have k8 := hl.k8
 have k12 := hl.k12
 have hlp := Heap.lt_of_get l1
 have ra := hR lp
 have wl := hW lp (.inl hNl)
 have hone := hl.vd.lr.one
 have e1 : (G.at' : Int) + (n : Int) = ((G.at' + n : Nat) : Int) := by omega
 have e2 : IntKind.u64.wrap ((G.nx : Int) + 1) = ((G.nx + 1 : Nat) : Int) := by rw [show (G.nx : Int) + 1 = ((G.nx + 1 : Nat) : Int) by omega]; exact wrap64 (by omega)
 have e3 : ((G.nx + 1 : Nat) : Int) - 1 = (G.nx : Int) := by omega
 have e4 : IntKind.u64.wrap (G.nx : Int) = (G.nx : Int) := wrap64 (by omega)
 have e5 : IntKind.i64.wrap (G.nx : Int) = (G.nx : Int) := by rw [IntWalk.i64_in] <;> omega
 simp -implicitDefEqProofs (disch := first | omega | (simp -implicitDefEqProofs only [szs, ne_eq] <;> omega) | fail) only [go_sem, seval, ↓reduceIte, reduceCtorEq, ir13_w, qE, t0, t1, t6, l1, l2, l3, k8, k9, k12, ra, wl, e1, e2]
 obtain ⟨c2, ec2⟩ : ∃ c2, c2 = (c.set 9 (.int .i64 ((G.at' + n : Nat) : Int))).set 8 (.int .u64 ((G.nx + 1 : Nat) : Int)) := ⟨_, rfl⟩
 have d2 : c2.size = 13 := by rw [ec2]; simp only [Blk.size_set]; exact l2
 have d3 : c2.ro = false := by rw [ec2]; simp only [Blk.qY]; exact l3
 have d8 : c2.get 8 = .int .u64 ((G.nx + 1 : Nat) : Int) := by rw [ec2]; simp -implicitDefEqProofs (disch := first | omega | (simp -implicitDefEqProofs only [szs, ne_eq] <;> omega) | fail) only [go_sem, seval]
 have d9 : c2.get 9 = .int .i64 ((G.at' + n : Nat) : Int) := by rw [ec2]; simp -implicitDefEqProofs (disch := first | omega | (simp -implicitDefEqProofs only [szs, ne_eq] <;> omega) | fail) only [go_sem, seval]
 have dj : ∀ j, j ≠ 8 → j ≠ 9 → c2.get j = c.get j := fun j h1 h2 => by rw [ec2, Blk.get_set, if_neg h1, Blk.get_set, if_neg h2]
 have d35 : c2.gets 3 5 = G.H.v := by rw [ec2, zI (by omega), zI (by omega)]; exact hl.k3
 rw [← ec2]
 clear ec2
 obtain ⟨g1, eg1⟩ : ∃ g1, g1 = (g.set lp (O.cells (c.set 9 (V.int IntKind.i64 ((G.at' + n : Nat) : Int))) 47)).set lp (O.cells c2 47) := ⟨_, rfl⟩
 rw [← eg1]
 have n1 : g1.n = g.n := by rw [eg1]; simp only [Heap.n_set]
 have L1 : g1.get lp = some (.cells c2 47) := by rw [eg1]; exact qF (by simp only [Heap.n_set]; exact hlp) rfl _
 have k1 : ∀ k, k ≠ lp → g1.get k = g.get k := fun k hk => by rw [eg1, qB (by simp only [Heap.n_set]; exact hlp) hk, qB hlp hk]
 clear eg1
 have hv1 : LR g1 S v l := hv.same fun b hb _ => k1 b fun e => hS b hb (e ▸ hNl)
 refine qN.of (SF.foot (clone42 (R := qR) (W := noW) hv1 (fun _ => trivial) hll hby.allOne).kept (fun _ h => h) (fun _ h => h)) ?_
 rintro r1 g2 ⟨⟨o1, kk2⟩, vf⟩
 have n2 := vf.n
 have L2 := (kk2 lp (by omega)).trans L1
 have hro := o1.lr.one
 have vd2 : Own 0 g2 rv vs 22 := hl.vd.keep fun b c' hb => by
  rw [kk2 b (by have := Heap.lt_of_get hb; omega), k1 b fun e => by rw [e, l1] at hb; cases hb]; exact hb
 obtain ⟨v', g3, rr, ww, hap, ho3, n3, kk3, hw3, hs3⟩ := app_rec (N := N) vd2 hl.vn hro (by rw [hl.vl]; exact hrs) (by omega)
 have h3o := ho3.lr.one
 have h3c := ho3.lr.cells
 have hr1c := o1.lr.cells
 have nlw : ∀ k, k < g2.n → (∀ c', g2.get k ≠ some (.cells c' 22)) → g3.get k = g2.get k := fun k h1 h2 => kk3 k h1 fun h4 => by
  obtain ⟨_, c', h5⟩ := hw3 k h4; exact h2 c' h5
 have L3 := (nlw lp (by omega) (fun c' e => by rw [L2] at e; cases e)).trans L2
 have hl3 := Heap.lt_of_get L3
 have q3 : allB R rr := qO fun b _ => hR b
 have q4 : allB W ww := qO fun b hb => hW b (.inl (hw3 b hb).1)
 simp -implicitDefEqProofs (disch := first | omega | (simp -implicitDefEqProofs only [szs, ne_eq] <;> omega) | fail) only [go_sem, seval, ↓reduceIte, reduceCtorEq, qE, t0, qU ap_45, hap, ↓hr1c, ↓h3o, ↓h3c, L3, d2, d3, d8, wl, e3, e4, e5, cv42_2, c42_2]
 have k4 : ∀ k, k ≠ lp → (g3.set lp (O.cells (c2.set 12 v') 47)).get k = g3.get k := fun k hk => qB hl3 hk _
 have n4 : g.n ≤ g3.n := by omega
 refine ⟨by (and_intros; all_goals (intro b hb hc; simp only [noW, qR, List.not_mem_nil, and_false, false_or, or_false] at hb hc <;> omega)), ⟨fun _ => ra, fun b _ _ => hR b, fun b _ h => h.elim, fun b _ _ => hR b, fun b _ h => hW b (.inl (hw3 b h).1)⟩, ra, hk _ _ (by simp -implicitDefEqProofs (disch := first | omega | (simp -implicitDefEqProofs only [szs, ne_eq] <;> omega) | fail) only [go_sem, seval, ↓reduceIte]) (by simp -implicitDefEqProofs (disch := first | omega | (simp -implicitDefEqProofs only [szs, ne_eq] <;> omega) | fail) only [go_sem, seval, ↓reduceIte]) ⟨by rw [Heap.n_set]; exact n4, fun k h1 h2 h3 => ?_⟩ ⟨fun k => N k ∨ (g.n ≤ k ∧ k < g3.n), ⟨⟨c2.set 12 v', v11, v', vs ++ [r1], qF hl3 rfl _, by simp only [Blk.size_set]; exact d2, by simp only [Blk.qY]; exact d3, ?_, ?_, ?_, ?_, ?_, ?_, ?_, ?_, ?_, ?_, ?_, ?_, ?_, ?_⟩, fun k hk => ?_, .inl hNl⟩, fun k hk => hk.imp id fun h => h.1⟩⟩
 ·have h4 := k1 k h2
  have h5 := kk2 k (by omega)
  rw [k4 k h2, kk3 k (by omega) fun h6 => ?_, h5, h4]
  obtain ⟨h7, c', h8⟩ := hw3 k h6
  rw [h5, h4] at h8
  exact h3 ⟨h7, c', h8⟩
 ·rw [Blk.get_set, if_neg (by omega), dj 0 (by omega) (by omega)]; exact hl.k0
 ·rw [Blk.get_set, if_neg (by omega), dj 1 (by omega) (by omega)]; exact hl.k1
 ·rw [Blk.get_set, if_neg (by omega), dj 2 (by omega) (by omega)]; exact hl.k2
 ·rw [zI (by omega)]; exact d35
 ·rw [Blk.get_set, if_neg (by omega)]; exact d8
 ·rw [Blk.get_set, if_neg (by omega)]; exact d9
 ·rw [Blk.get_set, if_neg (by omega), dj 10 (by omega) (by omega)]; exact hl.k10
 ·rw [Blk.get_set, if_neg (by omega), dj 11 (by omega) (by omega)]; exact hl.k11
 ·rw [Blk.get_set, if_pos rfl]
 ·have hz : ∀ b, N5 g N b → (g3.set lp (O.cells (c2.set 12 v') 47)).get b = g.get b := fun b hb => by
   obtain ⟨h1, c', h2⟩ := hb
   have h3 : b ≠ lp := fun e => by rw [e, l1] at h2; cases h2
   have h4 := Heap.lt_of_get h2
   have h5 := (kk2 b (by omega)).trans ((k1 b h3).trans h2)
   rw [k4 b h3, nlw b (by omega) (fun c'' e => by rw [h5] at e; cases e), h5, h2]
  exact (hl.sd.same fun b hb _ => hz b hb).mono fun b _ hb => ⟨.inl hb.1, by obtain ⟨c', h2⟩ := hb.2; exact ⟨c', (hz b hb).trans h2⟩⟩
 ·exact ho3.keep fun b c' hb => by rw [k4 b fun e => by rw [e, L3] at hb; cases hb]; exact hb
 ·right
  have h5 := ho3.sblk_lt (by omega)
  rcases hs3 with h1 | h1
  ·exact .inl h1
  ·exact .inr ⟨by omega, h5⟩
 ·simp [hl.vl]
 ·intro i l' hi
  have hz : ∀ b, (∃ c, g2.get b = some (.cells c 5)) → (g3.set lp (O.cells (c2.set 12 v') 47)).get b = g2.get b := fun b hb => by
   obtain ⟨c', h2⟩ := hb
   have h3 : b ≠ lp := fun e => by rw [e, L2] at h2; cases h2
   rw [k4 b h3, nlw b (Heap.lt_of_get h2) (fun c'' e => by rw [h2] at e; cases e)]
  by_cases hi2 : i < G.rs.length
  ·rw [List.getElem?_append_left hi2] at hi
   have e : (vs ++ [r1]).getD i qE = vs.getD i qE := by
    rw [List.getD_eq_getElem?_getD, List.getD_eq_getElem?_getD, List.getElem?_append_left (by rw [hl.vl]; exact hi2)]
   rw [e]
   have hg : ∀ b, N5 g N b → g2.get b = g.get b := fun b hb => by
    obtain ⟨h1, c', h2⟩ := hb
    have h3 : b ≠ lp := fun e => by rw [e, l1] at h2; cases h2
    rw [kk2 b (by have := Heap.lt_of_get h2; omega), k1 b h3]
   have hz2 : ∀ b, N5 g N b → (g3.set lp (O.cells (c2.set 12 v') 47)).get b = g.get b := fun b hb => by
    rw [hz b (by obtain ⟨c', h2⟩ := hb.2; exact ⟨c', (hg b hb).trans h2⟩), hg b hb]
   exact ((hl.ve i l' hi).same fun b hb _ => hz2 b hb).mono fun b _ hb => ⟨.inl hb.1, by obtain ⟨c', h2⟩ := hb.2; exact ⟨c', (hz2 b hb).trans h2⟩⟩
  ·rw [List.getElem?_append_right (by omega)] at hi
   have hi3 : i = G.rs.length := by
    have := (List.getElem?_eq_some_iff.1 hi).1
    simp at this; omega
   subst hi3
   rw [Nat.sub_self] at hi
   cases hi
   have e : (vs ++ [r1]).getD G.rs.length qE = r1 := by
    rw [List.getD_eq_getElem?_getD, List.getElem?_append_right (by rw [hl.vl]; omega), hl.vl, Nat.sub_self]; rfl
   rw [e]
   refine ((Own.lrf o1).same fun b hb _ => hz b hb.2).mono fun b hbn hb => ?_
   obtain ⟨h1, c', h2⟩ := hb
   have h3 := Heap.lt_of_get h2
   exact ⟨.inr ⟨by omega, by omega⟩, c', (hz b ⟨c', h2⟩).trans h2⟩
 ·rw [Heap.n_set]
  rcases hk with h1 | h1
  ·have := hlt k h1; omega
  ·exact h1.2
set_option maxHeartbeats 8000000 in
theorem append_ok {S : Set'} {v : V} {l : List V} (hx : DkX h M bd D) (hl : LgX h N lp bd fr ct G) (hMN : ∀ k, N k → ¬ M k) (hc : 16 ≤ ct ∧ fr + ct ≤ D.n) (hR : ∀ b, R b) (hW : ∀ k, M k ∨ N k → W k)
  (hv : LR h S v l) (hS : ∀ k, S k → k < h.n ∧ ¬ M k ∧ ¬ N k) (hcap : xU v) (hby : Byt l) (hll : l.length ≤ 1000000) (hha : G.H.ha < 2) (hnx : G.nx < 9223372036854775807 ∧ G.H.ep < 18446744073709551616) (hat : G.at' ≤ (ct - 2) / 2) (hrs : G.rs.length ≤ 1000000) (few : ∀ s, (D.pe s).length < 1000000000) :
  SF Try.prog 13 [.ptr (some (lp, 0)), v] h R W (AppQ h M N lp bd fr ct D G l) := by
 have hp := hx.pos
 have hl0 := hl
 obtain ⟨⟨c, v11, rv, vs, hl⟩, hlt, hNl⟩ := hl
 have l1 := hl.l1
 have l2 := hl.l2
 have l3 := hl.l3
 have k9 := hl.k9
 have k8 := hl.k8
 have k12 := hl.k12
 have hlp := Heap.lt_of_get l1
 have ra := hR lp
 have wl := hW lp (.inr hNl)
 have hR' : ∀ b, h.n ≤ b ∨ R b := fun b => .inr (hR b)
 refine SF.go hm Try.func13 ir13_eq ?_
 rw [ir13_c_eq]
 simp -implicitDefEqProofs (disch := first | omega | (simp -implicitDefEqProofs only [szs, ne_eq] <;> omega) | fail) only [go_sem, seval, ↓reduceIte, reduceCtorEq, ir13_c]
 refine qK.of (yP hl0 hR') ?_
 rintro r g ⟨rfl, rfl⟩
 simp -implicitDefEqProofs (disch := first | omega | (simp -implicitDefEqProofs only [szs, ne_eq] <;> omega) | fail) only [go_sem, seval, ↓reduceIte, reduceCtorEq]
 refine qK.of (parts_ok hv (by omega)) ?_
 rintro r g ⟨rfl, rfl⟩
 by_cases h6 : 6912 < l.length
 ·have hpn : kF l.length = (0, 3) := if_pos h6
  rw [hpn]
  simp -implicitDefEqProofs (disch := first | omega | (simp -implicitDefEqProofs only [szs, ne_eq] <;> omega) | fail) only [go_sem, seval, ↓reduceIte, reduceCtorEq]
  unfold AppQ
  rw [if_pos h6]
  exact ⟨rfl, Nat.le_refl _, fun _ _ => rfl⟩
 have hpn : kF l.length = (max 1 ((l.length + 107) / 108), 0) := if_neg h6
 obtain ⟨n, en⟩ : ∃ n, n = max 1 ((l.length + 107) / 108) := ⟨_, rfl⟩
 rw [← en] at hpn
 rw [hpn]
 simp -implicitDefEqProofs (disch := first | omega | (simp -implicitDefEqProofs only [szs, ne_eq] <;> omega) | fail) only [go_sem, seval, ↓reduceIte, reduceCtorEq]
 refine qK.of (room_ok hl0 ⟨hc.1, by omega⟩ (by omega) hR' (by omega)) ?_
 rintro r g1 ⟨rfl, n1, k1⟩
 by_cases h7 : (ct - 2) / 2 < n + G.at'
 ·have i7 : (((ct - 2) / 2 : Nat) : Int) - (G.at' : Int) < (n : Int) := by omega
  simp -implicitDefEqProofs (disch := first | omega | (simp -implicitDefEqProofs only [szs, ne_eq] <;> omega) | fail) only [go_sem, seval, ↓reduceIte, reduceCtorEq, i7]
  unfold AppQ
  rw [if_neg h6, if_pos (by rw [hpn]; exact h7)]
  exact ⟨rfl, n1, k1⟩
 have i7 : ¬ (((ct - 2) / 2 : Nat) : Int) - (G.at' : Int) < (n : Int) := by omega
 simp -implicitDefEqProofs (disch := first | omega | (simp -implicitDefEqProofs only [szs, ne_eq] <;> omega) | fail) only [go_sem, seval, ↓reduceIte, reduceCtorEq, i7]
 have hl1 : LgX g1 N lp bd fr ct G := hl0.keep n1 fun k h _ => k1 k h
 have L1 := (k1 lp hlp).trans l1
 refine qK.of (halves_ok (bd := bd) (fr := fr) (ct := ct) ⟨c, L1, l2, hl.k0, hl.k1, hl.k2⟩ ⟨by omega, by omega⟩ (by omega) hR') ?_
 rintro r g2 ⟨rfl, n2, k2⟩
 have hn2 : g.n ≤ g2.n := by omega
 simp -implicitDefEqProofs (disch := first | omega | (simp -implicitDefEqProofs only [szs, ne_eq] <;> omega) | fail) only [go_sem, seval, ↓reduceIte, reduceCtorEq, qE, hn2]
 obtain ⟨g3, e3⟩ : ∃ g3, g3 = (g2.push (O.cells (Blk.of [V.int IntKind.i64 0, V.int IntKind.i64 0]) 86)).set g2.n (O.cells (((Blk.of [V.int IntKind.i64 0, V.int IntKind.i64 0]).set 0 (V.int IntKind.i64 ((fr + 2 : Nat) : Int))).set 1 (V.int IntKind.i64 ((fr + 2 + (ct - 2) / 2 : Nat) : Int))) 86) := ⟨_, rfl⟩
 rw [← e3]
 have n3 : g3.n = g2.n + 1 := by rw [e3]; simp only [Heap.qG, Heap.n_set]
 have A3 : g3.get g2.n = some (.cells (((Blk.of [V.int IntKind.i64 0, V.int IntKind.i64 0]).set 0 (V.int IntKind.i64 ((fr + 2 : Nat) : Int))).set 1 (V.int IntKind.i64 ((fr + 2 + (ct - 2) / 2 : Nat) : Int))) 86) := by rw [e3]; exact qF (by simp only [Heap.qG]; omega) rfl _
 have k3 : ∀ k, k < g.n → g3.get k = g.get k := fun k hk => by rw [e3, qB (by simp only [Heap.qG]; omega) (by omega), qC (by omega), k2 k (by omega), k1 k hk]
 clear e3
 have hlM : ∀ k, M k → k < g.n := fun k hk => hx.lt k hk
 refine app_loop (M := M) (N := N) (S := S) (bb := g2.n) (l := l) hR' (fun k hk => hk.elim (fun h => .inr (hW k (.inl h))) fun h => .inl (by omega)) (hx.old (by omega) k3) (hl0.keep (by omega) fun k h _ => k3 k h) hMN (by simp -implicitDefEqProofs (disch := first | omega | (simp -implicitDefEqProofs only [szs, ne_eq] <;> omega) | fail) only [go_sem, seval, ↓reduceIte]) (by simp -implicitDefEqProofs (disch := first | omega | (simp -implicitDefEqProofs only [szs, ne_eq] <;> omega) | fail) only [go_sem, seval, ↓reduceIte, reduceCtorEq]) (by simp -implicitDefEqProofs (disch := first | omega | (simp -implicitDefEqProofs only [szs, ne_eq] <;> omega) | fail) only [go_sem, seval, ↓reduceIte, reduceCtorEq]) (by simp -implicitDefEqProofs (disch := first | omega | (simp -implicitDefEqProofs only [szs, ne_eq] <;> omega) | fail) only [go_sem, seval, ↓reduceIte, reduceCtorEq]) (by simp -implicitDefEqProofs (disch := first | omega | (simp -implicitDefEqProofs only [szs, ne_eq] <;> omega) | fail) only [go_sem, seval, ↓reduceIte, reduceCtorEq]) (by simp -implicitDefEqProofs (disch := first | omega | (simp -implicitDefEqProofs only [szs, ne_eq] <;> omega) | fail) only [go_sem, seval, ↓reduceIte, reduceCtorEq]) (by simp -implicitDefEqProofs (disch := first | omega | (simp -implicitDefEqProofs only [szs, ne_eq] <;> omega) | fail) only [go_sem, seval, ↓reduceIte, reduceCtorEq]) A3 rfl (by simp -implicitDefEqProofs (disch := first | omega | (simp -implicitDefEqProofs only [szs, ne_eq] <;> omega) | fail) only [go_sem, seval]) (by simp -implicitDefEqProofs (disch := first | omega | (simp -implicitDefEqProofs only [szs, ne_eq] <;> omega) | fail) only [go_sem, seval]) (fun h => by have := hlM _ h; omega) (hv.old k3) (fun k hk => ⟨by have := (hS k hk).1; omega, (hS k hk).2.1⟩) hcap hby hc (by omega) hha (by omega) en (by omega) ⟨by omega, hnx.2⟩ few fun tr5 g5 M5 t0 t1 t6 n5 k5 hx5 hM5 => ?_
 simp -implicitDefEqProofs (disch := first | omega | (simp -implicitDefEqProofs only [szs, ne_eq] <;> omega) | fail) only [go_sem, seval, ↓reduceIte]
 have hl5 : LgX g5 N lp bd fr ct G := hl0.keep (by omega) fun k h1 h2 => by rw [k5 k (by omega) (hMN k h2), k3 k h1]
 refine app_tail (N := N) (S := S) hR' (fun k hk => hk.elim (fun h => .inr (hW k (.inr h))) fun h => .inl (by omega)) hl5 t0 t6 t1 (hv.same fun b hb hbn => by rw [k5 b (by omega) (hS b hb).2.1, k3 b hbn]) (fun k hk => (hS k hk).2.2) hby hll (by omega) (by omega) hnx.1 hrs fun tr6 g6 q4 q5 q6 q7 => ?_
 obtain ⟨N', hl6, hN'⟩ := q7
 simp -implicitDefEqProofs (disch := first | omega | (simp -implicitDefEqProofs only [szs, ne_eq] <;> omega) | fail) only [go_sem, seval, q4, q5]
 unfold AppQ
 rw [if_neg h6, if_neg (by rw [hpn]; exact h7), hpn]
 have hltN := hl0.lt
 have nM5 : ∀ k, M5 k → ¬ N k := fun k h1 h2 => (hM5 k h1).elim (hMN k h2) fun h3 => by have := hltN k h2; omega
 refine ⟨rfl, by have := q6.n; omega, fun k h1 h2 h3 => ?_, M5, N', hx5.same q6.n fun k hk => ?_, hl6, fun k hk => (hM5 k hk).imp id fun h => by omega, fun k hk => (hN' k hk).imp id fun h => by omega, fun k hk h1 => (hN' k hk).elim (nM5 k h1) fun h => by have := hx5.lt k h1; omega⟩
 ·rw [q6.k k (by omega) (fun e => h3 (e ▸ hNl)) (fun h4 => h3 h4.1), k5 k (by omega) h2, k3 k h1]
 ·exact q6.k k (hx5.lt k hk) (fun e => nM5 k hk (e ▸ hNl)) (fun h4 => nM5 k hk h4.1)
end Go.Proofs.Ytakgjjbmniilhaa
