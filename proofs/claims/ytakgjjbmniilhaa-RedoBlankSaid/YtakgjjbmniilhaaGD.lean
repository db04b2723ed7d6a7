/- The log: a record's sector read. -/
import Derived.Test.YtakgjjbmniilhaaGC
set_option linter.unusedVariables false
set_option linter.unusedSimpArgs false
set_option linter.unusedSimpArgs false
set_option maxRecDepth 100000
set_option linter.unusedVariables false
set_option linter.unusedSimpArgs false
namespace Go.Proofs.Ytakgjjbmniilhaa
open Go Go.Vm
variable {h g : Heap} {R W : Set'}
set_option maxHeartbeats 8000000 in
theorem read_d {Q : Ex → Fr → Heap → Prop} {t : List It} {b mb zb n0 : Nat} {l : List V} {tr : Tr V} {c cm cz : Blk} {ce : TypeId} (h1 : h.get b = some (.cells c ce)) (h2 : 128 ≤ c.size) (h3 : c.gets 0 128 = l) (hb : Byt l) (hR : ∀ b, R b) (hW : ∀ b, n0 ≤ b → W b) (hn0 : n0 ≤ h.n) (hWz' : n0 ≤ zb) (hbb : b < n0)
    (m1 : h.get mb = some (.cells cm 90)) (m2 : cm.size = 4) (m0 : cm.gets 0 4 = (rawR l).v)
    (z1 : h.get zb = some (.cells cz 90)) (z2 : cz.size = 4) (z3 : cz.ro = false)
    (t0 : tr.get 0 = some (.slice (some (b, 0)) 128 128 true)) (t2 : tr.get 2 = some (.ptr (some (zb, 0)))) (t5 : tr.get 5 = some (.ptr (some (mb, 0))))
    (bad : ¬ okR (bAt l 18) (bAt l 16) (bAt l 17) → ∀ tr g, tr.get 2 = some (.ptr (some (zb, 0))) → tr.get 3 = some (.slice none 0 0 true) → tr.get 4 = some (.bool false) → h.n ≤ g.n → (∀ k, k < h.n → k ≠ zb → g.get k = h.get k) → (∃ c, g.get zb = some (.cells c 90) ∧ c.size = 4 ∧ ∀ j, j < 4 → (∃ n : Int, c.get j = .int .u64 n) ∨ ∃ n : Int, c.get j = .int .u8 n) → Q .ret ⟨⟨78, tr⟩, []⟩ g)
    (hk : okR (bAt l 18) (bAt l 16) (bAt l 17) → ∀ tr g v, tr.get 2 = some (.ptr (some (zb, 0))) → tr.get 3 = some v → tr.get 4 = some (.bool (sameB (rawR l).put l)) → Own n0 g v (rawR l).dat 5 → h.n ≤ g.n → (∀ k, k < h.n → k ≠ zb → g.get k = h.get k) → (∃ c, g.get zb = some (.cells c 90) ∧ c.size = 4 ∧ c.gets 0 4 = (rawR l).v) → Q .ret ⟨⟨78, tr⟩, []⟩ g) :
    GO (Try.prog : MP) R W none Q (It.code ir92_d :: t) ⟨⟨78, tr⟩, []⟩ h := by
  have hRb := hR b
  have hRm := hR mb
  have hWz := hW zb hWz'
  obtain ⟨g18, b18⟩ := bAt_get h3 hb (show 18 < 128 by omega)
  obtain ⟨g16, b16⟩ := bAt_get h3 hb (show 16 < 128 by omega)
  obtain ⟨g17, b17⟩ := bAt_get h3 hb (show 17 < 128 by omega)
  have i18 : (18 : Int) < ((128 : Nat) : Int) := by decide
  have h2' : 18 < c.size := by omega
  have m3 : cm.get 2 = .int .u8 (bAt l 16 : Nat) := by have := Blk.gets_get cm 4 0 2 (by omega); rw [m0] at this; exact (Option.some.inj this).symm
  have m4 : cm.get 3 = .int .u8 (bAt l 17 : Nat) := by have := Blk.gets_get cm 4 0 3 (by omega); rw [m0] at this; exact (Option.some.inj this).symm
  have hw18 : IntKind.i64.wrap ((bAt l 18 : Nat) : Int) = ((bAt l 18 : Nat) : Int) := IntWalk.i64_in _ (by omega)
  by_cases a1 : bAt l 18 ≤ 108
  rotate_left
  · have xa1 : 108 < ((bAt l 18 : Nat) : Int) := by omega
    simp -implicitDefEqProofs (disch := (first | omega | (simp -implicitDefEqProofs only [szs, ne_eq] <;> omega) | fail)) only [go_sem, seval, ↓reduceIte, reduceCtorEq, ir92_d, undefV, t0, t2, t5, i18, h1, h2', g18, hRb, hw18, m1, m2, m3, m4, hRm, z1, z2, z3, hWz, xa1]
    refine bad (fun h => absurd h.1 (by omega)) _ _ (by simp -implicitDefEqProofs (disch := (first | omega | (simp -implicitDefEqProofs only [szs, ne_eq] <;> omega) | fail)) only [go_sem, seval, ↓reduceIte, reduceCtorEq, t2]) (by simp -implicitDefEqProofs (disch := (first | omega | (simp -implicitDefEqProofs only [szs, ne_eq] <;> omega) | fail)) only [go_sem, seval, ↓reduceIte, reduceCtorEq]) (by simp -implicitDefEqProofs (disch := (first | omega | (simp -implicitDefEqProofs only [szs, ne_eq] <;> omega) | fail)) only [go_sem, seval, ↓reduceIte, reduceCtorEq]) (by simp only [Heap.n_set]; omega) (fun k q1 q2 => w_set_ne (Heap.lt_of_get z1) q2 _) ⟨_, w_set_eq (Heap.lt_of_get z1) rfl _, by simp only [Blk.size_set]; exact z2, fun j hj => ?_⟩
    simp only [Blk.get_set]
    have hh : j = 0 ∨ j = 1 ∨ j = 2 ∨ j = 3 := by omega
    rcases hh with rfl | rfl | rfl | rfl
    · exact .inl ⟨_, rfl⟩
    · exact .inl ⟨_, rfl⟩
    · exact .inr ⟨_, rfl⟩
    · exact .inr ⟨_, rfl⟩
  have xa1 : ¬ 108 < ((bAt l 18 : Nat) : Int) := by omega
  by_cases a2 : 1 ≤ bAt l 17
  rotate_left
  · have xa2 : ((bAt l 17 : Nat) : Int) < 1 := by omega
    simp -implicitDefEqProofs (disch := (first | omega | (simp -implicitDefEqProofs only [szs, ne_eq] <;> omega) | fail)) only [go_sem, seval, ↓reduceIte, reduceCtorEq, ir92_d, undefV, t0, t2, t5, i18, h1, h2', g18, hRb, hw18, m1, m2, m3, m4, hRm, z1, z2, z3, hWz, xa1, xa2]
    refine bad (fun h => absurd h.2.1 (by omega)) _ _ (by simp -implicitDefEqProofs (disch := (first | omega | (simp -implicitDefEqProofs only [szs, ne_eq] <;> omega) | fail)) only [go_sem, seval, ↓reduceIte, reduceCtorEq, t2]) (by simp -implicitDefEqProofs (disch := (first | omega | (simp -implicitDefEqProofs only [szs, ne_eq] <;> omega) | fail)) only [go_sem, seval, ↓reduceIte, reduceCtorEq]) (by simp -implicitDefEqProofs (disch := (first | omega | (simp -implicitDefEqProofs only [szs, ne_eq] <;> omega) | fail)) only [go_sem, seval, ↓reduceIte, reduceCtorEq]) (by simp only [Heap.n_set]; omega) (fun k q1 q2 => w_set_ne (Heap.lt_of_get z1) q2 _) ⟨_, w_set_eq (Heap.lt_of_get z1) rfl _, by simp only [Blk.size_set]; exact z2, fun j hj => ?_⟩
    simp only [Blk.get_set]
    have hh : j = 0 ∨ j = 1 ∨ j = 2 ∨ j = 3 := by omega
    rcases hh with rfl | rfl | rfl | rfl
    · exact .inl ⟨_, rfl⟩
    · exact .inl ⟨_, rfl⟩
    · exact .inr ⟨_, rfl⟩
    · exact .inr ⟨_, rfl⟩
  have xa2 : ¬ ((bAt l 17 : Nat) : Int) < 1 := by omega
  by_cases a3 : bAt l 17 ≤ 64
  rotate_left
  · have xa3 : 64 < ((bAt l 17 : Nat) : Int) := by omega
    simp -implicitDefEqProofs (disch := (first | omega | (simp -implicitDefEqProofs only [szs, ne_eq] <;> omega) | fail)) only [go_sem, seval, ↓reduceIte, reduceCtorEq, ir92_d, undefV, t0, t2, t5, i18, h1, h2', g18, hRb, hw18, m1, m2, m3, m4, hRm, z1, z2, z3, hWz, xa1, xa2, xa3]
    refine bad (fun h => absurd h.2.2.1 (by omega)) _ _ (by simp -implicitDefEqProofs (disch := (first | omega | (simp -implicitDefEqProofs only [szs, ne_eq] <;> omega) | fail)) only [go_sem, seval, ↓reduceIte, reduceCtorEq, t2]) (by simp -implicitDefEqProofs (disch := (first | omega | (simp -implicitDefEqProofs only [szs, ne_eq] <;> omega) | fail)) only [go_sem, seval, ↓reduceIte, reduceCtorEq]) (by simp -implicitDefEqProofs (disch := (first | omega | (simp -implicitDefEqProofs only [szs, ne_eq] <;> omega) | fail)) only [go_sem, seval, ↓reduceIte, reduceCtorEq]) (by simp only [Heap.n_set]; omega) (fun k q1 q2 => w_set_ne (Heap.lt_of_get z1) q2 _) ⟨_, w_set_eq (Heap.lt_of_get z1) rfl _, by simp only [Blk.size_set]; exact z2, fun j hj => ?_⟩
    simp only [Blk.get_set]
    have hh : j = 0 ∨ j = 1 ∨ j = 2 ∨ j = 3 := by omega
    rcases hh with rfl | rfl | rfl | rfl
    · exact .inl ⟨_, rfl⟩
    · exact .inl ⟨_, rfl⟩
    · exact .inr ⟨_, rfl⟩
    · exact .inr ⟨_, rfl⟩
  have xa3 : ¬ 64 < ((bAt l 17 : Nat) : Int) := by omega
  by_cases a4 : bAt l 16 < bAt l 17
  rotate_left
  · have xa4 : ((bAt l 17 : Nat) : Int) ≤ ((bAt l 16 : Nat) : Int) := by omega
    simp -implicitDefEqProofs (disch := (first | omega | (simp -implicitDefEqProofs only [szs, ne_eq] <;> omega) | fail)) only [go_sem, seval, ↓reduceIte, reduceCtorEq, ir92_d, undefV, t0, t2, t5, i18, h1, h2', g18, hRb, hw18, m1, m2, m3, m4, hRm, z1, z2, z3, hWz, xa1, xa2, xa3, xa4]
    refine bad (fun h => absurd h.2.2.2.1 (by omega)) _ _ (by simp -implicitDefEqProofs (disch := (first | omega | (simp -implicitDefEqProofs only [szs, ne_eq] <;> omega) | fail)) only [go_sem, seval, ↓reduceIte, reduceCtorEq, t2]) (by simp -implicitDefEqProofs (disch := (first | omega | (simp -implicitDefEqProofs only [szs, ne_eq] <;> omega) | fail)) only [go_sem, seval, ↓reduceIte, reduceCtorEq]) (by simp -implicitDefEqProofs (disch := (first | omega | (simp -implicitDefEqProofs only [szs, ne_eq] <;> omega) | fail)) only [go_sem, seval, ↓reduceIte, reduceCtorEq]) (by simp only [Heap.n_set]; omega) (fun k q1 q2 => w_set_ne (Heap.lt_of_get z1) q2 _) ⟨_, w_set_eq (Heap.lt_of_get z1) rfl _, by simp only [Blk.size_set]; exact z2, fun j hj => ?_⟩
    simp only [Blk.get_set]
    have hh : j = 0 ∨ j = 1 ∨ j = 2 ∨ j = 3 := by omega
    rcases hh with rfl | rfl | rfl | rfl
    · exact .inl ⟨_, rfl⟩
    · exact .inl ⟨_, rfl⟩
    · exact .inr ⟨_, rfl⟩
    · exact .inr ⟨_, rfl⟩
  have xa4 : ¬ ((bAt l 17 : Nat) : Int) ≤ ((bAt l 16 : Nat) : Int) := by omega
  have hw1 : IntKind.u8.wrap (((bAt l 16 : Nat) : Int) + 1) = ((bAt l 16 : Nat) : Int) + 1 := by
    rw [show ((bAt l 16 : Nat) : Int) + 1 = ((bAt l 16 + 1 : Nat) : Int) by omega, wrap8, Nat.mod_eq_of_lt (by omega)]
  have good : (bAt l 16 + 1 < bAt l 17 → bAt l 18 = 108) → (1 < bAt l 17 → bAt l 18 ≠ 0) → ∀ tr', tr'.get 0 = some (.slice (some (b, 0)) 128 128 true) → tr'.get 2 = some (.ptr (some (zb, 0))) → tr'.get 5 = some (.ptr (some (mb, 0))) → tr'.get 6 = some (.int .i64 (bAt l 18 : Nat)) → GO (Try.prog : MP) R W none Q (It.code ir92_e :: t) ⟨⟨78, tr'⟩, []⟩ h := fun a5 a6 tr' u0 u2 u5 u6 =>
    read_e h1 h2 h3 hb hR hW hn0 hWz' a1 hbb m1 m2 m0 z1 z2 z3 ⟨b16, b17⟩ u0 u2 u5 u6 (hk ⟨a1, a2, a3, a4, a5, a6⟩)
  by_cases p5 : bAt l 16 + 1 < bAt l 17
  · have x5 : ((bAt l 16 : Nat) : Int) + 1 < ((bAt l 17 : Nat) : Int) := by omega
    have x7 : 1 < ((bAt l 17 : Nat) : Int) := by omega
    by_cases a5 : bAt l 18 = 108
    rotate_left
    · have x6 : ¬ ((bAt l 18 : Nat) : Int) = 108 := by omega
      simp -implicitDefEqProofs (disch := (first | omega | (simp -implicitDefEqProofs only [szs, ne_eq] <;> omega) | fail)) only [go_sem, seval, ↓reduceIte, reduceCtorEq, ir92_d, undefV, t0, t2, t5, i18, h1, h2', g18, hRb, hw18, m1, m2, m3, m4, hRm, z1, z2, z3, hWz, xa1, xa2, xa3, xa4, hw1, x5, x6]
      refine bad (fun h => a5 (h.2.2.2.2.1 p5)) _ _ (by simp -implicitDefEqProofs (disch := (first | omega | (simp -implicitDefEqProofs only [szs, ne_eq] <;> omega) | fail)) only [go_sem, seval, ↓reduceIte, reduceCtorEq, t2]) (by simp -implicitDefEqProofs (disch := (first | omega | (simp -implicitDefEqProofs only [szs, ne_eq] <;> omega) | fail)) only [go_sem, seval, ↓reduceIte, reduceCtorEq]) (by simp -implicitDefEqProofs (disch := (first | omega | (simp -implicitDefEqProofs only [szs, ne_eq] <;> omega) | fail)) only [go_sem, seval, ↓reduceIte, reduceCtorEq]) (by simp only [Heap.n_set]; omega) (fun k q1 q2 => w_set_ne (Heap.lt_of_get z1) q2 _) ⟨_, w_set_eq (Heap.lt_of_get z1) rfl _, by simp only [Blk.size_set]; exact z2, fun j hj => ?_⟩
      simp only [Blk.get_set]
      have hh : j = 0 ∨ j = 1 ∨ j = 2 ∨ j = 3 := by omega
      rcases hh with rfl | rfl | rfl | rfl
      · exact .inl ⟨_, rfl⟩
      · exact .inl ⟨_, rfl⟩
      · exact .inr ⟨_, rfl⟩
      · exact .inr ⟨_, rfl⟩
    · have x6 : (((bAt l 18 : Nat) : Int) == 108) = true := by rw [beq_iff_eq]; omega
      have x8 : ¬ ((bAt l 18 : Nat) : Int) = 0 := by omega
      simp -implicitDefEqProofs (disch := (first | omega | (simp -implicitDefEqProofs only [szs, ne_eq] <;> omega) | fail)) only [go_sem, seval, ↓reduceIte, reduceCtorEq, ir92_d, undefV, t0, t2, t5, i18, h1, h2', g18, hRb, hw18, m1, m2, m3, m4, hRm, z1, z2, z3, hWz, xa1, xa2, xa3, xa4, hw1, x5, bne, x6, x7, x8]
      exact good (fun _ => a5) (fun _ => by omega) _ (by simp -implicitDefEqProofs (disch := (first | omega | (simp -implicitDefEqProofs only [szs, ne_eq] <;> omega) | fail)) only [go_sem, seval, ↓reduceIte, reduceCtorEq, t0]) (by simp -implicitDefEqProofs (disch := (first | omega | (simp -implicitDefEqProofs only [szs, ne_eq] <;> omega) | fail)) only [go_sem, seval, ↓reduceIte, reduceCtorEq, t2]) (by simp -implicitDefEqProofs (disch := (first | omega | (simp -implicitDefEqProofs only [szs, ne_eq] <;> omega) | fail)) only [go_sem, seval, ↓reduceIte, reduceCtorEq, t5]) (by simp -implicitDefEqProofs (disch := (first | omega | (simp -implicitDefEqProofs only [szs, ne_eq] <;> omega) | fail)) only [go_sem, seval, ↓reduceIte, reduceCtorEq])
  · have x5 : ¬ ((bAt l 16 : Nat) : Int) + 1 < ((bAt l 17 : Nat) : Int) := by omega
    by_cases p6 : 1 < bAt l 17
    · have x7 : 1 < ((bAt l 17 : Nat) : Int) := by omega
      by_cases a6 : bAt l 18 = 0
      · have x8 : (((bAt l 18 : Nat) : Int) == 0) = true := by rw [beq_iff_eq]; omega
        simp -implicitDefEqProofs (disch := (first | omega | (simp -implicitDefEqProofs only [szs, ne_eq] <;> omega) | fail)) only [go_sem, seval, ↓reduceIte, reduceCtorEq, ir92_d, undefV, t0, t2, t5, i18, h1, h2', g18, hRb, hw18, m1, m2, m3, m4, hRm, z1, z2, z3, hWz, xa1, xa2, xa3, xa4, hw1, x5, x7, x8]
        refine bad (fun h => h.2.2.2.2.2 p6 a6) _ _ (by simp -implicitDefEqProofs (disch := (first | omega | (simp -implicitDefEqProofs only [szs, ne_eq] <;> omega) | fail)) only [go_sem, seval, ↓reduceIte, reduceCtorEq, t2]) (by simp -implicitDefEqProofs (disch := (first | omega | (simp -implicitDefEqProofs only [szs, ne_eq] <;> omega) | fail)) only [go_sem, seval, ↓reduceIte, reduceCtorEq]) (by simp -implicitDefEqProofs (disch := (first | omega | (simp -implicitDefEqProofs only [szs, ne_eq] <;> omega) | fail)) only [go_sem, seval, ↓reduceIte, reduceCtorEq]) (by simp only [Heap.n_set]; omega) (fun k q1 q2 => w_set_ne (Heap.lt_of_get z1) q2 _) ⟨_, w_set_eq (Heap.lt_of_get z1) rfl _, by simp only [Blk.size_set]; exact z2, fun j hj => ?_⟩
        simp only [Blk.get_set]
        have hh : j = 0 ∨ j = 1 ∨ j = 2 ∨ j = 3 := by omega
        rcases hh with rfl | rfl | rfl | rfl
        · exact .inl ⟨_, rfl⟩
        · exact .inl ⟨_, rfl⟩
        · exact .inr ⟨_, rfl⟩
        · exact .inr ⟨_, rfl⟩
      · have x8 : ¬ ((bAt l 18 : Nat) : Int) = 0 := by omega
        simp -implicitDefEqProofs (disch := (first | omega | (simp -implicitDefEqProofs only [szs, ne_eq] <;> omega) | fail)) only [go_sem, seval, ↓reduceIte, reduceCtorEq, ir92_d, undefV, t0, t2, t5, i18, h1, h2', g18, hRb, hw18, m1, m2, m3, m4, hRm, z1, z2, z3, hWz, xa1, xa2, xa3, xa4, hw1, x5, x7, x8]
        exact good (fun h => absurd h p5) (fun _ => a6) _ (by simp -implicitDefEqProofs (disch := (first | omega | (simp -implicitDefEqProofs only [szs, ne_eq] <;> omega) | fail)) only [go_sem, seval, ↓reduceIte, reduceCtorEq, t0]) (by simp -implicitDefEqProofs (disch := (first | omega | (simp -implicitDefEqProofs only [szs, ne_eq] <;> omega) | fail)) only [go_sem, seval, ↓reduceIte, reduceCtorEq, t2]) (by simp -implicitDefEqProofs (disch := (first | omega | (simp -implicitDefEqProofs only [szs, ne_eq] <;> omega) | fail)) only [go_sem, seval, ↓reduceIte, reduceCtorEq, t5]) (by simp -implicitDefEqProofs (disch := (first | omega | (simp -implicitDefEqProofs only [szs, ne_eq] <;> omega) | fail)) only [go_sem, seval, ↓reduceIte, reduceCtorEq])
    · have x7 : ¬ 1 < ((bAt l 17 : Nat) : Int) := by omega
      simp -implicitDefEqProofs (disch := (first | omega | (simp -implicitDefEqProofs only [szs, ne_eq] <;> omega) | fail)) only [go_sem, seval, ↓reduceIte, reduceCtorEq, ir92_d, undefV, t0, t2, t5, i18, h1, h2', g18, hRb, hw18, m1, m2, m3, m4, hRm, z1, z2, z3, hWz, xa1, xa2, xa3, xa4, hw1, x5, x7]
      exact good (fun h => absurd h p5) (fun h => absurd h p6) _ (by simp -implicitDefEqProofs (disch := (first | omega | (simp -implicitDefEqProofs only [szs, ne_eq] <;> omega) | fail)) only [go_sem, seval, ↓reduceIte, reduceCtorEq, t0]) (by simp -implicitDefEqProofs (disch := (first | omega | (simp -implicitDefEqProofs only [szs, ne_eq] <;> omega) | fail)) only [go_sem, seval, ↓reduceIte, reduceCtorEq, t2]) (by simp -implicitDefEqProofs (disch := (first | omega | (simp -implicitDefEqProofs only [szs, ne_eq] <;> omega) | fail)) only [go_sem, seval, ↓reduceIte, reduceCtorEq, t5]) (by simp -implicitDefEqProofs (disch := (first | omega | (simp -implicitDefEqProofs only [szs, ne_eq] <;> omega) | fail)) only [go_sem, seval, ↓reduceIte, reduceCtorEq])
theorem allOne_of : ∀ {l : List V}, (∀ i, i < l.length → (l.getD i undefV).one = true) → allOne l = true
  | [], _ => rfl
  | v :: l, h => by
    have h0 := h 0 (by simp)
    have h1 := allOne_of (l := l) fun i hi => by
      have := h (i + 1) (by simp; omega)
      simpa using this
    have h0' : v.one = true := by simpa using h0
    simp only [allOne, h0', h1]
set_option maxHeartbeats 8000000 in
theorem recread_ok {S : Set'} {b : Nat} {l : List V} (hv : LR h S (.slice (some (b, 0)) 128 128 true) l) (hl : l.length = 128) (hb : Byt l) (hR : ∀ b, R b) : SF Try.prog 92 [.slice (some (b, 0)) 128 128 true] h R W fun r g => ∃ (m : List V) (v : V), r = .tuple [.agg m, v, .bool (recA l).isSome] ∧ m.length = 4 ∧ allOne m = true ∧ v.one = true ∧ (∀ x, recA l = some x → m = x.v ∧ Own h.n g v x.dat 5) ∧ h.n ≤ g.n ∧ ∀ k, k < h.n → g.get k = h.get k := by
  rcases hv with ⟨rfl, _⟩ | ⟨b', o, cap, ex, c, ce, e, hS, h1, h2, h3⟩
  · cases hl
  rw [hl] at e h2 h3
  cases e
  rw [Nat.zero_add] at h2
  have hlt := Heap.lt_of_get h1
  have hRb := hR b
  obtain ⟨g16, b16⟩ := bAt_get h3 hb (show 16 < 128 by omega)
  obtain ⟨g17, b17⟩ := bAt_get h3 hb (show 17 < 128 by omega)
  obtain ⟨g18, b18⟩ := bAt_get h3 hb (show 18 < 128 by omega)
  refine SF.go hm Try.func92 ir92_eq ?_
  rw [ir92_c_eq]
  simp -implicitDefEqProofs (disch := (first | omega | (simp -implicitDefEqProofs only [szs, ne_eq] <;> omega) | fail)) only [go_sem, seval, ↓reduceIte, reduceCtorEq, ir92_c, undefV, sl_8]
  have kp : ∀ k, k < h.n → (h.push (.cells (Blk.of [.int .u64 0, .int .u64 0, .int .u8 0, .int .u8 0]) 90)).get k = h.get k := fun k hk => w_push_ne (by omega) _
  have h1p := (kp b hlt).trans h1
  have s8 := sub_lr (ex := true) (cap := 128) (o := 0) (k := 8) h1p h2 h3 (by omega)
  have s16 := sub_lr (ex := true) (cap := 120) (o := 8) (k := 8) h1p h2 h3 (by omega)
  have l8 : ((l.drop 0).take 8).length = 8 := by rw [List.length_take, List.length_drop]; omega
  have l16 : ((l.drop 8).take 8).length = 8 := by rw [List.length_take, List.length_drop]; omega
  refine GCallD.of (SF.foot (numb_ok (R := allR) (W := noW) s8 l8 ((hb.drop 0).take 8) (fun _ => trivial)) (fun _ h => h) (fun _ h => h)) ?_
  rintro r g1 ⟨rfl, rfl⟩
  simp -implicitDefEqProofs (disch := (first | omega | (simp -implicitDefEqProofs only [szs, ne_eq] <;> omega) | fail)) only [go_sem, seval, ↓reduceIte, reduceCtorEq, undefV, sl_16]
  refine GCallD.of (SF.foot (numb_ok (R := allR) (W := noW) s16 l16 ((hb.drop 8).take 8) (fun _ => trivial)) (fun _ h => h) (fun _ h => h)) ?_
  rintro r g2 ⟨rfl, rfl⟩
  have i16 : (16 : Int) < ((128 : Nat) : Int) := by decide
  have i17 : (17 : Int) < ((128 : Nat) : Int) := by decide
  have hA : 16 < c.size := by omega
  have hB : 17 < c.size := by omega
  simp -implicitDefEqProofs (disch := (first | omega | (simp -implicitDefEqProofs only [szs, ne_eq] <;> omega) | fail)) only [go_sem, seval, ↓reduceIte, reduceCtorEq, undefV, i16, i17, h1, hA, hB, g16, g17, hRb]
  refine ⟨?_, ?_, ?_⟩
  · simp only [noW]
    (try simp only [List.not_mem_nil, or_false, false_or, and_false, false_and, false_implies, implies_true, not_false_eq_true, List.mem_singleton, List.mem_cons, and_true, true_and, forall_const]; try and_intros; all_goals (try trivial); all_goals (intro b hb; first | omega | (intro hc; first | omega | (rcases hb with hb | hb <;> first | omega))))
  · simp only [noW]
    and_intros
    all_goals (intros; first | exact .inr (hR _) | exact (by assumption : False).elim | omega)
  obtain ⟨g, eg⟩ : ∃ g, g = ((h.push (.cells (Blk.of [.int .u64 0, .int .u64 0, .int .u8 0, .int .u8 0]) 90)).push (.cells (Blk.of [.int .u64 0, .int .u64 0, .int .u8 0, .int .u8 0]) 90)).set (h.n + 1) (.cells (((((Blk.of [.int .u64 0, .int .u64 0, .int .u8 0, .int .u8 0]).set 0 (.int .u64 ((numB ((l.drop 0).take 8) : Nat) : Int))).set 1 (.int .u64 ((numB ((l.drop 8).take 8) : Nat) : Int))).set 2 (.int .u8 ((bAt l 16 : Nat) : Int))).set 3 (.int .u8 ((bAt l 17 : Nat) : Int))) 90) := ⟨_, rfl⟩
  rw [← eg]
  have gn : g.n = h.n + 2 := by rw [eg]; simp
  have gk : ∀ k, k < h.n → g.get k = h.get k := fun k hk => by rw [eg, w_set_ne (by simp) (by omega), w_push_ne (by simp; omega), w_push_ne (by omega)]
  have gz : g.get h.n = some (.cells (Blk.of [.int .u64 0, .int .u64 0, .int .u8 0, .int .u8 0]) 90) := by rw [eg, w_set_ne (by simp) (by omega), w_push_ne (by simp)]; exact w_push_eq rfl _
  have gm : ∃ c, g.get (h.n + 1) = some (.cells c 90) ∧ c.size = 4 ∧ c.gets 0 4 = (rawR l).v := by
    refine ⟨_, by rw [eg]; exact w_set_eq (by simp) rfl _, rfl, ?_⟩
    refine List.ext_getElem? fun j => ?_
    by_cases hj : j < 4
    · rw [Blk.gets_get _ _ _ _ hj, Nat.zero_add]
      simp only [Blk.get_set]
      have hh : j = 0 ∨ j = 1 ∨ j = 2 ∨ j = 3 := by omega
      rcases hh with rfl | rfl | rfl | rfl <;> rfl
    · rw [List.getElem?_eq_none (by rw [Blk.length_gets]; omega), List.getElem?_eq_none (by show 4 ≤ j; omega)]
  clear eg
  obtain ⟨cm, gm1, gm2, gm3⟩ := gm
  refine read_d (R := fun b => h.n ≤ b ∨ R b) (W := fun b => h.n ≤ b ∨ W b) (n0 := h.n) (b := b) (mb := h.n + 1) (zb := h.n) (l := l) ((gk b hlt).trans h1) h2 h3 hb (fun b => .inr (hR b)) (fun b hb => .inl hb) (by omega) (Nat.le_refl _) hlt gm1 gm2 gm3 gz rfl rfl (by simp -implicitDefEqProofs (disch := (first | omega | (simp -implicitDefEqProofs only [szs, ne_eq] <;> omega) | fail)) only [go_sem, seval, ↓reduceIte, reduceCtorEq]) (by simp -implicitDefEqProofs (disch := (first | omega | (simp -implicitDefEqProofs only [szs, ne_eq] <;> omega) | fail)) only [go_sem, seval, ↓reduceIte, reduceCtorEq]) (by simp -implicitDefEqProofs (disch := (first | omega | (simp -implicitDefEqProofs only [szs, ne_eq] <;> omega) | fail)) only [go_sem, seval, ↓reduceIte, reduceCtorEq]) ?_ ?_
  · rintro hno tr g' t2 t3 t4 n' k' ⟨c', d1, d2, d3⟩
    have hnn := recA_bad hno
    obtain ⟨m, hmm⟩ : ∃ m, m = c'.gets 0 4 := ⟨_, rfl⟩
    have hml : m.length = 4 := by rw [hmm, Blk.length_gets]
    have hma : allOne m = true := by
      have : ∀ i, i < m.length → (m.getD i undefV).one = true := fun i hi => by
        rw [hmm, List.getD_eq_getElem?_getD, Blk.gets_get _ _ _ _ (by omega), Nat.zero_add]
        rcases d3 i (by omega) with ⟨n, e⟩ | ⟨n, e⟩ <;> (rw [Option.getD_some, e]; rfl)
      exact allOne_of this
    simp -implicitDefEqProofs (disch := (first | omega | (simp -implicitDefEqProofs only [szs, ne_eq] <;> omega) | fail)) only [go_sem, seval, ↓reduceIte, reduceCtorEq, t2, t3, t4, d1, d2, ← hmm]
    refine ⟨m, .slice none 0 0 true, by rw [hnn]; rfl, hml, hma, rfl, (fun x hx => by rw [hnn] at hx; cases hx), by omega, fun k hk => by rw [k' k (by omega) (by omega), gk k hk]⟩
  · rintro hok tr g' v t2 t3 t4 ho n' k' ⟨c', d1, d2, d3⟩
    have hgd := recA_good hl hb hok
    have hone := ho.lr.one
    simp -implicitDefEqProofs (disch := (first | omega | (simp -implicitDefEqProofs only [szs, ne_eq] <;> omega) | fail)) only [go_sem, seval, ↓reduceIte, reduceCtorEq, t2, t3, t4, d1, d2, d3]
    refine ⟨(rawR l).v, v, ?_, rfl, rfl, hone, fun x hx => ?_, by omega, fun k hk => by rw [k' k (by omega) (by omega), gk k hk]⟩
    · rw [hgd]
      cases sameB (rawR l).put l <;> rfl
    · rw [hgd] at hx
      split at hx
      · cases hx; exact ⟨rfl, ho⟩
      · cases hx
end Go.Proofs.Ytakgjjbmniilhaa
