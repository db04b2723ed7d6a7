/- The log: lay, open, Open. -/
import Derived.Test.YtakgjjbmniilhaaHF
set_option linter.unusedVariables false
set_option linter.unusedSimpArgs false
set_option linter.unusedSimpArgs false
set_option maxRecDepth 100000
set_option linter.unusedVariables false
set_option linter.unusedSimpArgs false
namespace Go.Proofs.Ytakgjjbmniilhaa
open Go Go.Vm
attribute [-go_sem] sz_101
variable {h g : Heap} {R W M : Set'} {bd lp fr ct : Nat} {D : DS}
def DkS (g g' : Heap) (M S : Set') (bd : Nat) (D : DS) : Prop := g.n ≤ g'.n ∧ (∀ k, k < g.n → ¬ M k → ¬ S k → g'.get k = g.get k) ∧ ∃ M', DkX g' M' bd D ∧ ∀ k, M' k → M k ∨ g.n ≤ k
def layD (D : DS) (fr ct : Nat) (H : Hd) : DS := (D.write (fr + H.ep % 2) (putH H)).flush fr ct
set_option maxHeartbeats 8000000 in
theorem lay_ok {H : Hd} {c : Blk} (hx : DkX h M bd D) (hM : ¬ M lp) (l1 : h.get lp = some (.cells c 47)) (l2 : c.size = 13) (l3 : c.ro = false) (k0 : c.get 0 = .ptr (some (bd, 0))) (k1 : c.get 1 = .int .i64 (fr : Int)) (k2 : c.get 2 = .int .i64 (ct : Int)) (hc : 16 ≤ ct ∧ fr + ct ≤ D.n) (hD : D.n ≤ 4096) (hlt : H.Lt) (few : (D.pe (fr + H.ep % 2)).length < 1000000000) (hR : ∀ b, R b) (hW : ∀ k, M k → W k) (hWl : W lp) :
    SF Try.prog 36 [.ptr (some (lp, 0)), .agg H.v] h R W fun _ g => DkS h g M (fun k => k = lp) bd (layD D fr ct H) ∧ ∃ c', g.get lp = some (.cells c' 47) ∧ c'.size = 13 ∧ c'.ro = false ∧ c'.gets 3 5 = H.v ∧ ∀ j, j < 3 ∨ 8 ≤ j → c'.get j = c.get j := by
  have hll := Heap.lt_of_get l1
  have ra := hR lp
  have hone : allOne H.v = true := rfl
  have e2 : (H.ep : Int).tmod 2 = ((H.ep % 2 : Nat) : Int) := rfl
  have e3 : IntKind.u64.wrap ((H.ep % 2 : Nat) : Int) = ((H.ep % 2 : Nat) : Int) := wrap64 (by omega)
  have e4 : IntKind.i64.wrap ((H.ep % 2 : Nat) : Int) = ((H.ep % 2 : Nat) : Int) := by rw [IntWalk.i64_in] <;> omega
  have e5 : (fr : Int) + ((H.ep % 2 : Nat) : Int) = ((fr + H.ep % 2 : Nat) : Int) := by omega
  refine SF.go hm Try.func36 ir36_eq ?_
  simp -implicitDefEqProofs (disch := (first | omega | (simp -implicitDefEqProofs only [szs, ne_eq] <;> omega) | fail)) only [go_sem, seval, ↓reduceIte, reduceCtorEq, ir36, Hd.v, undefV, l1, l2, k0, k1, ra, cv42_3, cvd42_3, c42_3, e2, e3, e4, e5]
  have hh : Heap.get (h.push (.cells (Blk.of H.v) 44)) h.n = some (.cells (Blk.of H.v) 44) := w_push_eq rfl _
  refine GCallD.of (SF.foot (put_ok (R := allR) (W := noW) hlt (fun _ => trivial)).kept (fun _ h => h) (fun _ h => h)) ?_
  rintro r1 g1 ⟨⟨o1, k1'⟩, vf1⟩
  have n1 := vf1.n
  simp only [Heap.n_push] at n1 k1' o1
  have one1 := o1.lr.one
  have kk1 : ∀ k, k < h.n → g1.get k = h.get k := fun k hk => by rw [k1' k (by omega), w_push_ne (by omega)]
  have L1 := (kk1 lp hll).trans l1
  have X1 := (k1' h.n (by omega)).trans hh
  have hx1 : DkX g1 M bd D := hx.old (by omega) kk1
  simp -implicitDefEqProofs (disch := (first | omega | (simp -implicitDefEqProofs only [szs, ne_eq] <;> omega) | fail)) only [go_sem, seval, ↓reduceIte, reduceCtorEq, undefV, l1, L1, X1]
  have hep : fr + H.ep % 2 < D.n := by omega
  refine GCallD.of (R' := allR) (W' := M) ((write_dk (R := allR) (W := M) hx1 (fun _ => trivial) (fun _ h => h) hep o1.lr (putH_len H) (byt_putH H) few).foot (fun _ h => h) (fun _ h => h)) ?_
  rintro r2 g2 ⟨rfl, ⟨n2, k2'⟩, M2, hx2, hM2⟩
  have L2 := (k2' lp (by omega) hM).trans L1
  have X2 := (k2' h.n (by omega) fun h1 => by have := hx.lt _ h1; omega).trans X1
  simp -implicitDefEqProofs (disch := (first | omega | (simp -implicitDefEqProofs only [szs, ne_eq] <;> omega) | fail)) only [go_sem, seval, ↓reduceIte, reduceCtorEq, undefV, l1, L2, l2, k0, k1, k2, ra]
  refine ⟨by (and_intros; all_goals (intro b hb hc; simp only [noW, allR, List.not_mem_nil, and_false, false_and, false_or, or_false, List.mem_singleton] at hb hc <;> omega)), ⟨fun b _ _ => .inr (hR b), fun b _ h => h.elim, fun b _ _ => .inr (hR b), fun b _ h => .inr (hW b h)⟩, ?_⟩
  refine GCallD.of (R' := allR) (W' := fun k => M k ∨ h.n ≤ k) ((flush_dk (R := allR) (W := fun k => M k ∨ h.n ≤ k) hx2 (fun _ => trivial) (fun k h => (hM2 k h).imp id fun h => by omega) (a := fr) (m := ct) hc.2).foot (fun _ h => h) (fun _ h => h)) ?_
  rintro r3 g3 ⟨rfl, ⟨n3, k3'⟩, M3, hx3, hM3⟩
  have nM2 : ¬ M2 lp := fun h1 => (hM2 lp h1).elim hM fun h2 => by omega
  have nM2x : ¬ M2 h.n := fun h1 => (hM2 _ h1).elim (fun h2 => by have := hx.lt _ h2; omega) fun h2 => by omega
  have L3 := (k3' lp (by omega) nM2).trans L2
  have X3 := (k3' h.n (by omega) nM2x).trans X2
  simp -implicitDefEqProofs (disch := (first | omega | (simp -implicitDefEqProofs only [szs, ne_eq] <;> omega) | fail)) only [go_sem, seval, ↓reduceIte, reduceCtorEq, Hd.v, undefV, L3, X3, l2, l3, hWl]
  have hl3 := Heap.lt_of_get L3
  refine ⟨⟨fun _ => .inr ra, fun _ => .inr ra, fun _ => .inr ra, fun b _ _ => .inr (hR b), fun b _ h => h.elim (fun h => .inr (hW b h)) .inl⟩, ⟨by rw [Heap.n_set]; omega, fun k hk1 hk2 hk3 => ?_, M3, hx3.same (by rw [Heap.n_set]; exact Nat.le_refl _) fun k hk => w_set_ne hl3 (fun e => ?_) _, fun k hk => ?_⟩, _, rfl, by simp only [Blk.size_set]; exact l2, by simp only [Blk.ro_set]; exact l3, ?_, fun j hj => ?_⟩
  · have q2 : ¬ M2 k := fun h1 => (hM2 k h1).elim hk2 fun h2 => by omega
    rw [w_set_ne hl3 hk3, k3' k (by omega) q2, k2' k (by omega) hk2, kk1 k hk1]
  · rcases hM3 k hk with h1 | h1
    · exact nM2 (e ▸ h1)
    · omega
  · rcases hM3 k hk with h1 | h1
    · exact (hM2 k h1).imp id fun h => by omega
    · exact .inr (by omega)
  · simp -implicitDefEqProofs (disch := (first | omega | (simp -implicitDefEqProofs only [szs, ne_eq] <;> omega) | fail)) only [go_sem, seval, ↓reduceIte, reduceCtorEq]
  · simp only [Blk.get_set]
    rw [if_neg (by omega), if_neg (by omega), if_neg (by omega), if_neg (by omega), if_neg (by omega)]
def okO (D : DS) (f k : Int) : Prop := 16 ≤ k ∧ k ≤ 4096 ∧ 0 ≤ f ∧ f ≤ (D.n : Int) - k
instance (D : DS) (f k : Int) : Decidable (okO D f k) := by unfold okO; exact inferInstance
set_option maxHeartbeats 8000000 in
theorem open_ok {f k : Int} (hx : DkX h M bd D) (hf : -9223372036854775808 ≤ f ∧ f ≤ 9223372036854775807) (hk : -9223372036854775808 ≤ k ∧ k ≤ 9223372036854775807) (hR : ∀ b, R b) :
    SF ⟨Try.prog, true⟩ 33 [.ptr (some (bd, 0)), .int .i64 f, .int .i64 k] h R W fun r g => h.n ≤ g.n ∧ (∀ k, k < h.n → g.get k = h.get k) ∧ if okO D f k then ∃ lp c, h.n ≤ lp ∧ r = .tuple [.ptr (some (lp, 0)), .int .i64 0] ∧ g.get lp = some (.cells c 47) ∧ c.size = 13 ∧ c.ro = false ∧ c.get 0 = .ptr (some (bd, 0)) ∧ c.get 1 = .int .i64 f ∧ c.get 2 = .int .i64 k ∧ c.gets 3 5 = Hd.zero.v ∧ c.get 10 = .int .u64 0 else r = .tuple [.ptr none, .int .i64 2] := by
  refine SF.go hm Try.func33 ir33_eq ?_
  simp -implicitDefEqProofs (disch := (first | omega | (simp -implicitDefEqProofs only [szs, ne_eq] <;> omega) | fail)) only [go_sem, seval, ↓reduceIte, reduceCtorEq, ir33]
  refine GCall.of (copy_dk hx fun b => .inr (hR b)) ?_
  rintro v g1 ⟨M', bd', rfl, _, _, n1, k1⟩
  by_cases h1 : 16 ≤ k
  rotate_left
  · have i1 : k < 16 := by omega
    have ho : ¬ okO D f k := by unfold okO; omega
    simp -implicitDefEqProofs (disch := (first | omega | (simp -implicitDefEqProofs only [szs, ne_eq] <;> omega) | fail)) only [go_sem, seval, ↓reduceIte, reduceCtorEq, undefV, i1]
    exact ⟨n1, k1, by rw [if_neg ho]; trivial⟩
  have i1 : ¬ k < 16 := by omega
  by_cases h2 : k ≤ 4096
  rotate_left
  · have i2 : 4096 < k := by omega
    have ho : ¬ okO D f k := by unfold okO; omega
    simp -implicitDefEqProofs (disch := (first | omega | (simp -implicitDefEqProofs only [szs, ne_eq] <;> omega) | fail)) only [go_sem, seval, ↓reduceIte, reduceCtorEq, undefV, i1, i2]
    exact ⟨n1, k1, by rw [if_neg ho]; trivial⟩
  have i2 : ¬ 4096 < k := by omega
  by_cases h3 : 0 ≤ f
  rotate_left
  · have i3 : f < 0 := by omega
    have ho : ¬ okO D f k := by unfold okO; omega
    simp -implicitDefEqProofs (disch := (first | omega | (simp -implicitDefEqProofs only [szs, ne_eq] <;> omega) | fail)) only [go_sem, seval, ↓reduceIte, reduceCtorEq, undefV, i1, i2, i3]
    exact ⟨n1, k1, by rw [if_neg ho]; trivial⟩
  have i3 : ¬ f < 0 := by omega
  simp -implicitDefEqProofs (disch := (first | omega | (simp -implicitDefEqProofs only [szs, ne_eq] <;> omega) | fail)) only [go_sem, seval, ↓reduceIte, reduceCtorEq, undefV, i1, i2, i3]
  have hp := hx.pos
  refine GCall.of (SF.any (M := ⟨Try.prog, true⟩) (size_dk (hx.old n1 k1) fun b => .inr (hR b))) ?_
  rintro v g2 ⟨rfl, rfl⟩
  have e1 : IntKind.i64.wrap ((D.n : Int) - k) = (D.n : Int) - k := by rw [IntWalk.i64_in] <;> omega
  by_cases h4 : f ≤ (D.n : Int) - k
  rotate_left
  · have i4 : (D.n : Int) - k < f := by omega
    have ho : ¬ okO D f k := by unfold okO; omega
    simp -implicitDefEqProofs (disch := (first | omega | (simp -implicitDefEqProofs only [szs, ne_eq] <;> omega) | fail)) only [go_sem, seval, ↓reduceIte, reduceCtorEq, undefV, i1, i2, i3, e1, i4]
    exact ⟨n1, k1, by rw [if_neg ho]; trivial⟩
  have i4 : ¬ (D.n : Int) - k < f := by omega
  have ho : okO D f k := by unfold okO; omega
  simp -implicitDefEqProofs (disch := (first | omega | (simp -implicitDefEqProofs only [szs, ne_eq] <;> omega) | fail)) only [go_sem, seval, ↓reduceIte, reduceCtorEq, undefV, i1, i2, i3, e1, i4]
  refine ⟨by omega, fun j hj => by rw [w_push_ne (by omega)]; exact k1 j hj, ?_⟩
  rw [if_pos ho]
  exact ⟨_, _, n1, rfl, w_push_eq rfl _, rfl, rfl, rfl, rfl, rfl, rfl, rfl⟩
end Go.Proofs.Ytakgjjbmniilhaa
