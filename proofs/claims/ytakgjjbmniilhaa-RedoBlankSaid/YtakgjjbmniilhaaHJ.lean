/- The log: Blank. -/
import Derived.Test.YtakgjjbmniilhaaHI
set_option linter.unusedVariables false
set_option linter.unusedSimpArgs false
set_option linter.unusedSimpArgs false
set_option maxRecDepth 100000
set_option linter.unusedVariables false
set_option linter.unusedSimpArgs false
namespace Go.Proofs.Ytakgjjbmniilhaa
open Go Go.Vm
attribute [-go_sem] sz_101
variable {h g : Heap} {R W M N : Set'} {bd lp fr ct : Nat} {D : DS} {G : LgS}
def zeroW (D : DS) (fr : Nat) : Nat → DS
  | 0 => D
  | k + 1 => (zeroW D fr k).write (fr + k) (zB 128)
theorem zeroW_n (D : DS) (fr : Nat) : ∀ k, (zeroW D fr k).n = D.n
  | 0 => rfl
  | k + 1 => (zeroW_n D fr k)
theorem zeroW_pe (D : DS) (fr : Nat) : ∀ k s, fr + k ≤ s → (zeroW D fr k).pe s = D.pe s
  | 0, _, _ => rfl
  | k + 1, s, h => by
    show (if s = fr + k then _ else _) = _
    rw [if_neg (by omega)]
    exact zeroW_pe D fr k s (by omega)
def blankD (D : DS) (fr ct : Nat) : DS := (zeroW D fr ct).flush fr ct
def BlankQ (h : Heap) (M : Set') (bd : Nat) (D : DS) (f k : Int) (r : V) (g : Heap) : Prop := if okO D f k then r = .int .i64 0 ∧ DkQ h g M bd (blankD D f.toNat k.toNat) else r = .int .i64 2 ∧ h.n ≤ g.n ∧ ∀ k, k < h.n → g.get k = h.get k
set_option maxHeartbeats 8000000 in
theorem blank_ok {f k : Int} (hx : DkX h M bd D) (hf : -9223372036854775808 ≤ f ∧ f ≤ 9223372036854775807) (hk : -9223372036854775808 ≤ k ∧ k ≤ 9223372036854775807) (few : ∀ s, (D.pe s).length < 1000000000) (hR : ∀ b, R b) (hW : ∀ k, M k → W k) :
    SF ⟨Try.prog, true⟩ 12 [.ptr (some (bd, 0)), .int .i64 f, .int .i64 k] h R W (BlankQ h M bd D f k) := by
  have hR' : ∀ b, h.n ≤ b ∨ R b := fun b => .inr (hR b)
  refine SF.go hm Try.func12 ir12_eq ?_
  simp -implicitDefEqProofs (disch := (first | omega | (simp -implicitDefEqProofs only [szs, ne_eq] <;> omega) | fail)) only [go_sem, seval, ↓reduceIte, reduceCtorEq, ir12]
  refine GCall.of (open_ok (f := f) (k := k) hx hf hk hR') ?_
  rintro r g1 ⟨n1, k1, hq⟩
  by_cases ho : okO D f k
  rotate_left
  · rw [if_neg ho] at hq
    subst hq
    simp -implicitDefEqProofs (disch := (first | omega | (simp -implicitDefEqProofs only [szs, ne_eq] <;> omega) | fail)) only [go_sem, seval, ↓reduceIte, reduceCtorEq, undefV]
    unfold BlankQ
    rw [if_neg ho]
    exact ⟨rfl, n1, k1⟩
  rw [if_pos ho] at hq
  obtain ⟨lp, c, hlp, rfl, l1, l2, l3, c0, c1, c2, c35, c10⟩ := hq
  obtain ⟨fr, rfl⟩ : ∃ fr : Nat, f = fr := ⟨f.toNat, by unfold okO at ho; omega⟩
  obtain ⟨ct, rfl⟩ : ∃ ct : Nat, k = ct := ⟨k.toNat, by unfold okO at ho; omega⟩
  have hp := hx.pos
  have hc : 16 ≤ ct ∧ fr + ct ≤ D.n := by unfold okO at ho; omega
  have hx1 : DkX g1 M bd D := hx.old n1 k1
  have hll := Heap.lt_of_get l1
  simp -implicitDefEqProofs (disch := (first | omega | (simp -implicitDefEqProofs only [szs, ne_eq] <;> omega) | fail)) only [go_sem, seval, ↓reduceIte, reduceCtorEq, undefV]
  refine GLoop.inv hm (fun j f g => f.mks = [] ∧ f.tm.n = 41 ∧ f.tm.get 0 = some (.ptr (some (bd, 0))) ∧ f.tm.get 1 = some (.int .i64 (fr : Int)) ∧ f.tm.get 7 = some (.ptr (some (lp, 0))) ∧ f.tm.get 20 = some (.int .i64 (ct : Int)) ∧ ∃ (i : Nat) (Mi : Set'), i + j = ct ∧ f.tm.get 21 = some (.int .i64 (i : Int)) ∧ DkX g Mi bd (zeroW D fr i) ∧ (∀ k, Mi k → M k ∨ g1.n ≤ k) ∧ g1.n ≤ g.n ∧ ∀ k, k < g1.n → ¬ M k → g.get k = g1.get k) ct ?_ ?_
  · exact ⟨rfl, rfl, by simp -implicitDefEqProofs (disch := (first | omega | (simp -implicitDefEqProofs only [szs, ne_eq] <;> omega) | fail)) only [go_sem, seval, ↓reduceIte, reduceCtorEq], by simp -implicitDefEqProofs (disch := (first | omega | (simp -implicitDefEqProofs only [szs, ne_eq] <;> omega) | fail)) only [go_sem, seval, ↓reduceIte, reduceCtorEq], by simp -implicitDefEqProofs (disch := (first | omega | (simp -implicitDefEqProofs only [szs, ne_eq] <;> omega) | fail)) only [go_sem, seval, ↓reduceIte, reduceCtorEq], by simp -implicitDefEqProofs (disch := (first | omega | (simp -implicitDefEqProofs only [szs, ne_eq] <;> omega) | fail)) only [go_sem, seval, ↓reduceIte, reduceCtorEq], 0, M, by omega, by simp -implicitDefEqProofs (disch := (first | omega | (simp -implicitDefEqProofs only [szs, ne_eq] <;> omega) | fail)) only [go_sem, Nat.reduceAdd, Nat.reduceSub, Nat.reduceMul, Nat.reduceLT, Nat.reduceMod, Nat.reduceDiv, Nat.reduceEqDiff, Nat.reduceBEq, Nat.reduceLeDiff, ↓reduceIte, reduceCtorEq, Int.reduceAdd, Int.reduceSub, Int.reduceLT, Int.reduceLE, Int.reduceBEq, Int.reduceEq, Int.reduceToNat]; rfl, hx1, fun k hk => .inl hk, Nat.le_refl _, fun _ _ _ => rfl⟩
  rintro j ⟨⟨n', tr⟩, mks⟩ g ⟨hmk, hn', t0, t1, t7, t20, i, Mi, hij, t21, hxi, hMi, hng, kg⟩
  simp only [Tm.get_mk] at hmk hn' t0 t1 t7 t20 t21
  subst hmk hn'
  by_cases hi : i < ct
  · have hci : (i : Int) < (ct : Int) := by omega
    have e1 : (fr : Int) + (i : Int) = ((fr + i : Nat) : Int) := by omega
    simp -implicitDefEqProofs (disch := (first | omega | (simp -implicitDefEqProofs only [szs, ne_eq] <;> omega) | fail)) only [go_sem, seval, ↓reduceIte, reduceCtorEq, ir12_l0, undefV, t0, t1, t7, t20, t21, hci, e1]
    refine GCall.of (SF.any (M := ⟨Try.prog, true⟩) (sector_ok (S := noW) (l := []) (.inl ⟨rfl, .inl rfl⟩) hR' (by simp) Byt.nil)) ?_
    rintro r g2 ⟨o2, n2, k2⟩
    have hpad : padB [] = zB 128 := rfl
    rw [hpad] at o2
    have hx2 : DkX g2 Mi bd (zeroW D fr i) := hxi.old n2 k2
    simp -implicitDefEqProofs (disch := (first | omega | (simp -implicitDefEqProofs only [szs, ne_eq] <;> omega) | fail)) only [go_sem, seval, ↓reduceIte, reduceCtorEq, undefV, t0, t1, t7, t20, t21]
    refine GCall.of (SF.any (M := ⟨Try.prog, true⟩) (write_dk hx2 hR' (fun b hb => (hMi b hb).elim (fun h => .inr (hW b h)) fun h => .inl (by omega)) (by rw [zeroW_n]; omega) o2.lr (zB_len 128) (byt_zB 128) (by rw [zeroW_pe D fr i _ (Nat.le_refl _)]; exact few _))) ?_
    rintro r g3 ⟨rfl, ⟨n3, k3⟩, M3, hx3, hM3⟩
    simp -implicitDefEqProofs (disch := (first | omega | (simp -implicitDefEqProofs only [szs, ne_eq] <;> omega) | fail)) only [go_sem, seval, ↓reduceIte, reduceCtorEq, undefV, t0, t1, t7, t20, t21]
    refine ⟨j - 1, by omega, i + 1, M3, by omega, by simp, hx3, fun k hk => ?_, by omega, fun k h1 h2 => ?_⟩
    · rcases hM3 k hk with h1 | h1
      · exact hMi k h1
      · exact .inr (by omega)
    · rw [k3 k (by omega) fun h3 => (hMi k h3).elim h2 fun h4 => by omega, k2 k (by omega), kg k h1 h2]
  · have hci : ¬ (i : Int) < (ct : Int) := by omega
    obtain rfl : i = ct := by omega
    have nM : ¬ M lp := fun h1 => by have := hx.lt _ h1; omega
    have L1 := (kg lp hll nM).trans l1
    have ra := hR' lp
    simp -implicitDefEqProofs (disch := (first | omega | (simp -implicitDefEqProofs only [szs, ne_eq] <;> omega) | fail)) only [go_sem, seval, ↓reduceIte, reduceCtorEq, ir12_l0, undefV, t0, t1, t7, t20, t21, hci, L1, l2, c1, c2, hlp]
    refine GCallD.of (R' := allR) (W' := Mi) ((flush_dk (R := allR) (W := Mi) hxi (fun _ => trivial) (fun _ h => h) (a := fr) (m := i) (by rw [zeroW_n]; exact hc.2)).foot (fun _ h => h) (fun _ h => h)) ?_
    rintro r3 g3 ⟨rfl, ⟨n3, k3⟩, M3, hx3, hM3⟩
    simp -implicitDefEqProofs (disch := (first | omega | (simp -implicitDefEqProofs only [szs, ne_eq] <;> omega) | fail)) only [go_sem, seval, ↓reduceIte, reduceCtorEq, undefV, t0, t1, t7]
    refine ⟨⟨fun _ => .inl hlp, fun _ => .inl hlp, fun b _ _ => hR' b, fun b _ h => (hMi b h).elim (fun h => .inr (hW b h)) fun h => .inl (by omega)⟩, ?_⟩
    unfold BlankQ
    rw [if_pos ho]
    simp only [Int.toNat_natCast]
    refine ⟨trivial, ⟨by omega, fun k h1 h2 => ?_⟩, M3, hx3, fun k hk => ?_⟩
    · rw [k3 k (by omega) fun h3 => (hMi k h3).elim h2 fun h4 => by omega, kg k (by omega) h2, k1 k h1]
    · rcases hM3 k hk with h1 | h1
      · exact (hMi k h1).imp id fun h => by omega
      · exact .inr (by omega)
end Go.Proofs.Ytakgjjbmniilhaa
