/- The document's disk: Write, Flush. -/
import Derived.Test.YtgkcbpagdfdpdaaT3
set_option linter.unusedVariables false
set_option linter.unusedSimpArgs false
set_option linter.unusedSimpArgs false
set_option maxRecDepth 100000
set_option linter.unusedVariables false
set_option linter.unusedSimpArgs false
namespace Go.Proofs.Ytgkcbpagdfdpdaa
open Go Go.Vm
attribute [-go_sem] sz_67
/-- What is not the disk's own three blocks. -/
def Rx (R : Set') (rd fb pb : Nat) : Set' := fun b => R b ∧ b ≠ rd ∧ b ≠ fb ∧ b ≠ pb
/-- A list of sectors. -/
def PLs (h : Heap) (R : Set') (v : V) (ll : List (List V)) : Prop := ∃ vs, LR h R v vs ∧ vs.length = ll.length ∧ ∀ i l, ll[i]? = some l → LR h R (vs.getD i undefV) l
theorem PLs.same {h h' : Heap} {R : Set'} {v : V} {ll : List (List V)} (hp : PLs h R v ll) (hk : ∀ b, R b → b < h.n → h'.get b = h.get b) : PLs h' R v ll := by
  obtain ⟨vs, v1, v2, v3⟩ := hp
  exact ⟨vs, v1.same hk, v2, fun i l e => (v3 i l e).same hk⟩
theorem PLs.mono {h : Heap} {R R' : Set'} {v : V} {ll : List (List V)} (hp : PLs h R v ll) (hk : ∀ b, b < h.n → R b → R' b) : PLs h R' v ll := by
  obtain ⟨vs, v1, v2, v3⟩ := hp
  exact ⟨vs, v1.mono hk, v2, fun i l e => (v3 i l e).mono hk⟩
theorem PLs.nil (h : Heap) (R : Set') : PLs h R (.slice none 0 0 true) [] := ⟨[], .inl ⟨rfl, .inl rfl⟩, rfl, fun i l e => by simp at e⟩
theorem allOne_of : ∀ {l : List V}, (∀ i, i < l.length → (l.getD i undefV).one = true) → allOne l = true
  | [], _ => rfl
  | v :: l, h => by
    have h0 := h 0 (by simp)
    have h1 := allOne_of (l := l) fun i hi => by
      have := h (i + 1) (by simp; omega)
      simpa using this
    have h0' : v.one = true := by simpa using h0
    simp only [allOne, h0', h1]
/-- The document's disk with its three blocks named. -/
structure RefX (h : Heap) (R : Set') (rd fb pb : Nat) (D : DS) : Prop where
  pos : 1 ≤ D.n ∧ D.n ≤ 4096
  r : R rd ∧ R fb ∧ R pb
  d : ∃ c xf xp, h.get rd = some (.cells c 78) ∧ c.size = 3 ∧ c.ro = false ∧ c.get 0 = .slice (some (fb, 0)) D.n D.n xf ∧ c.get 1 = .slice (some (pb, 0)) D.n D.n xp ∧ c.get 2 = .int .i64 D.wr
  f : ∃ cf, h.get fb = some (.cells cf 33) ∧ cf.size = D.n ∧ cf.ro = false ∧ ∀ s, s < D.n → LR h (Rx R rd fb pb) (cf.get s) (D.fl s)
  p : ∃ cp, h.get pb = some (.cells cp 75) ∧ cp.size = D.n ∧ cp.ro = false ∧ ∀ s, s < D.n → PLs h (Rx R rd fb pb) (cp.get s) (D.pe s)
  fl : ∀ s, s < D.n → IsSec (D.fl s)
  pe : ∀ s, ∀ l ∈ D.pe s, IsSec l
  out : ∀ s, D.n ≤ s → D.pe s = []
  few : ∀ s, (D.pe s).length ≤ 1000000000
theorem RefX.ne {h : Heap} {R : Set'} {rd fb pb : Nat} {D : DS} (hr : RefX h R rd fb pb D) : rd ≠ fb ∧ rd ≠ pb ∧ fb ≠ pb := by
  obtain ⟨c, xf, xp, d1, _⟩ := hr.d
  obtain ⟨cf, f1, _⟩ := hr.f
  obtain ⟨cp, p1, _⟩ := hr.p
  refine ⟨fun e => ?_, fun e => ?_, fun e => ?_⟩
  · rw [e, f1] at d1; cases d1
  · rw [e, p1] at d1; cases d1
  · rw [e, p1] at f1; cases f1
theorem RefX.lt {h : Heap} {R : Set'} {rd fb pb : Nat} {D : DS} (hr : RefX h R rd fb pb D) : rd < h.n ∧ fb < h.n ∧ pb < h.n := by
  obtain ⟨c, xf, xp, d1, _⟩ := hr.d
  obtain ⟨cf, f1, _⟩ := hr.f
  obtain ⟨cp, p1, _⟩ := hr.p
  exact ⟨Heap.lt_of_get d1, Heap.lt_of_get f1, Heap.lt_of_get p1⟩
theorem RefX.at {h : Heap} {R : Set'} {rd fb pb : Nat} {D : DS} (hr : RefX h R rd fb pb D) : RefAt h R rd D := by
  obtain ⟨c, xf, xp, d1, d2, d3, d4, d5, d6⟩ := hr.d
  obtain ⟨cf, f1, f2, f3, f4⟩ := hr.f
  obtain ⟨cp, p1, p2, p3, p4⟩ := hr.p
  exact ⟨hr.pos, hr.r.1, ⟨c, fb, pb, xf, xp, d1, d2, d3, d4, d5, d6, hr.r.2.1, hr.r.2.2, ⟨cf, f1, f2, f3, fun s hs => (f4 s hs).mono fun b _ h => h.1⟩, ⟨cp, p1, p2, p3, fun s hs => (p4 s hs).mono fun b _ h => h.1⟩⟩, hr.fl, hr.pe, hr.out, hr.few⟩
theorem RefX.same {h h' : Heap} {R : Set'} {rd fb pb : Nat} {D : DS} (hr : RefX h R rd fb pb D) (hk : ∀ b, R b → b < h.n → h'.get b = h.get b) : RefX h' R rd fb pb D := by
  obtain ⟨l1, l2, l3⟩ := hr.lt
  obtain ⟨hp, r, ⟨c, xf, xp, d1, d2⟩, ⟨cf, f1, f2, f3, f4⟩, ⟨cp, p1, p2, p3, p4⟩, h1, h2, h3, h4⟩ := hr
  exact ⟨hp, r, ⟨c, xf, xp, by rw [hk _ r.1 l1]; exact d1, d2⟩, ⟨cf, by rw [hk _ r.2.1 l2]; exact f1, f2, f3, fun s hs => (f4 s hs).same fun b hb => hk b hb.1⟩, ⟨cp, by rw [hk _ r.2.2 l3]; exact p1, p2, p3, fun s hs => (p4 s hs).same fun b hb => hk b hb.1⟩, h1, h2, h3, h4⟩
theorem RefX.old {h h' : Heap} {R : Set'} {rd fb pb : Nat} {D : DS} (hr : RefX h R rd fb pb D) (hk : ∀ b, b < h.n → h'.get b = h.get b) : RefX h' R rd fb pb D := hr.same fun b _ hb => hk b hb
theorem RefX.mono {h : Heap} {R R' : Set'} {rd fb pb : Nat} {D : DS} (hr : RefX h R rd fb pb D) (hk : ∀ b, b < h.n → R b → R' b) : RefX h R' rd fb pb D := by
  obtain ⟨l1, l2, l3⟩ := hr.lt
  obtain ⟨hp, r, hd, ⟨cf, f1, f2, f3, f4⟩, ⟨cp, p1, p2, p3, p4⟩, h1, h2, h3, h4⟩ := hr
  exact ⟨hp, ⟨hk _ l1 r.1, hk _ l2 r.2.1, hk _ l3 r.2.2⟩, hd, ⟨cf, f1, f2, f3, fun s hs => (f4 s hs).mono fun b hb h => ⟨hk b hb h.1, h.2⟩⟩, ⟨cp, p1, p2, p3, fun s hs => (p4 s hs).mono fun b hb h => ⟨hk b hb h.1, h.2⟩⟩, h1, h2, h3, h4⟩
/-- The blocks of R and the new ones. -/
def Rn (R : Set') (n n' : Nat) : Set' := fun b => R b ∨ n ≤ b ∧ b < n'
theorem RefX.setP {h h' : Heap} {S : Set'} {rd fb pb s : Nat} {D : DS} {v : V} {ll : List (List V)} {x : Int} (hr : RefX h S rd fb pb D) (hs : s < D.n) (hv : PLs h (Rx S rd fb pb) v ll) (hll : ∀ l ∈ ll, IsSec l) (hlen : ll.length ≤ 1000000000)
    (kd : ∃ c c', h.get rd = some (.cells c 78) ∧ h'.get rd = some (.cells c' 78) ∧ c'.size = c.size ∧ c'.ro = c.ro ∧ c'.get 0 = c.get 0 ∧ c'.get 1 = c.get 1 ∧ c'.get 2 = .int .i64 x)
    (kp : ∃ cp, h.get pb = some (.cells cp 75) ∧ h'.get pb = some (.cells (cp.set s v) 75)) (hk : ∀ b, b ≠ rd → b ≠ pb → b < h.n → h'.get b = h.get b) : RefX h' S rd fb pb { D with pe := fun y => if y = s then ll else D.pe y, wr := x } := by
  obtain ⟨e1, e2, e3⟩ := hr.ne
  obtain ⟨hp, r, ⟨c, xf, xp, d1, d2, d3, d4, d5, d6⟩, ⟨cf, f1, f2, f3, f4⟩, ⟨cp, p1, p2, p3, p4⟩, h1, h2, h3, h4⟩ := hr
  obtain ⟨c0, c', k0, k1, k2, k3, k4, k5, k6⟩ := kd
  rw [d1] at k0; cases k0
  obtain ⟨cp0, q0, q1⟩ := kp
  rw [p1] at q0; cases q0
  have hx : ∀ b, Rx S rd fb pb b → b < h.n → h'.get b = h.get b := fun b hb hlt => hk b hb.2.1 hb.2.2.2 hlt
  refine ⟨hp, r, ⟨c', xf, xp, k1, by rw [k2]; exact d2, by rw [k3]; exact d3, by rw [k4]; exact d4, by rw [k5]; exact d5, k6⟩, ⟨cf, by rw [hk _ (Ne.symm e1) e3 (Heap.lt_of_get f1)]; exact f1, f2, f3, fun y hy => (f4 y hy).same hx⟩, ⟨_, q1, by rw [Blk.size_set]; exact p2, by rw [Blk.ro_set]; exact p3, fun y hy => ?_⟩, h1, fun y l hl => ?_, fun y hy => ?_, fun y => ?_⟩
  · have hy : y < D.n := hy
    by_cases hys : y = s
    · subst hys
      rw [w_bset_eq rfl]
      show PLs h' _ v (if y = y then ll else D.pe y)
      rw [if_pos rfl]
      exact hv.same hx
    · rw [w_bset_ne hys]
      show PLs h' _ _ (if y = s then ll else D.pe y)
      rw [if_neg hys]
      exact (p4 y hy).same hx
  · simp only [] at hl
    split at hl
    · exact hll l hl
    · exact h2 y l hl
  · have hy : D.n ≤ y := hy
    simp only []
    rw [if_neg (by omega)]; exact h3 y hy
  · simp only []
    split
    · exact hlen
    · exact h4 y
theorem PLs.one {h : Heap} {R : Set'} {vs : List V} {ll : List (List V)} (hl : vs.length = ll.length) (h3 : ∀ i l, ll[i]? = some l → LR h R (vs.getD i undefV) l) : allOne vs = true := allOne_of fun i hi => by
  have := h3 i (ll[i]'(by omega)) (by rw [List.getElem?_eq_getElem])
  exact this.one
theorem rwrite_bad {h : Heap} {R W S : Set'} {rd : Nat} {D : DS} (hr : RefAt h S rd D) (hR : ∀ b, R b) {k : Int} {v : V} {m : Nat} (hv : ∀ h, lenV Try.prog 33 v h = some (m, [])) (hk : ¬ ((0 ≤ k ∧ k < D.n) ∧ m = 128)) : SF Try.prog 42 [.ptr (some (rd, 0)), .int .i64 k, v] h R W fun v h' => v = .int .i64 2 ∧ h' = h := by
  refine SF.go hm Try.func42 ir42_eq ?_
  simp -implicitDefEqProofs (disch := (first | omega | (simp -implicitDefEqProofs only [szs, ne_eq] <;> omega) | fail)) only [go_sem, Nat.reduceAdd, Nat.reduceSub, Nat.reduceMul, Nat.reduceLT, Nat.reduceMod, Nat.reduceDiv, Nat.reduceEqDiff, Nat.reduceBEq, Nat.reduceLeDiff, ↓reduceIte, reduceCtorEq, Int.reduceAdd, Int.reduceSub, Int.reduceLT, Int.reduceLE, Int.reduceBEq, Int.reduceEq, Int.reduceToNat, ir42, Option.isNone_some]
  refine GCall.of (rin_ok hr (fun b => .inr (hR b)) k) ?_
  rintro v' g ⟨rfl, rfl⟩
  by_cases h0 : 0 ≤ k ∧ k < D.n
  · rw [decide_eq_true h0]
    have hm2 : (m : Int) ≠ 128 := by omega
    simp -implicitDefEqProofs (disch := (first | omega | (simp -implicitDefEqProofs only [szs, ne_eq] <;> omega) | fail)) only [go_sem, Nat.reduceAdd, Nat.reduceSub, Nat.reduceMul, Nat.reduceLT, Nat.reduceMod, Nat.reduceDiv, Nat.reduceEqDiff, Nat.reduceBEq, Nat.reduceLeDiff, ↓reduceIte, reduceCtorEq, Int.reduceAdd, Int.reduceSub, Int.reduceLT, Int.reduceLE, Int.reduceBEq, Int.reduceEq, Int.reduceToNat, ↓hv, undefV]
  · rw [decide_eq_false h0]
    simp -implicitDefEqProofs (disch := (first | omega | (simp -implicitDefEqProofs only [szs, ne_eq] <;> omega) | fail)) only [go_sem, Nat.reduceAdd, Nat.reduceSub, Nat.reduceMul, Nat.reduceLT, Nat.reduceMod, Nat.reduceDiv, Nat.reduceEqDiff, Nat.reduceBEq, Nat.reduceLeDiff, ↓reduceIte, reduceCtorEq, Int.reduceAdd, Int.reduceSub, Int.reduceLT, Int.reduceLE, Int.reduceBEq, Int.reduceEq, Int.reduceToNat, undefV]
end Go.Proofs.Ytgkcbpagdfdpdaa
