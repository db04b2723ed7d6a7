/- The pool: Page, Byte, Put. -/
import Derived.Test.YtfgdpgagcnelpaaH2
set_option linter.unusedVariables false
set_option linter.unusedSimpArgs false
set_option linter.unusedSimpArgs false
set_option maxRecDepth 100000
set_option linter.unusedVariables false
set_option linter.unusedSimpArgs false
namespace Go.Proofs.Ytfgdpgagcnelpaa
open Go Go.Vm

theorem place_ok {h : Heap} {R W : Set'} (k : Int) : SF Try.prog 35 [.int .i64 k] h R W fun v h' => v = .bool (decide (0 ≤ k ∧ k < 256)) ∧ h' = h := by
  refine SF.go hm Try.func35 ir35_eq ?_
  by_cases h0 : 0 ≤ k
  · by_cases h1 : k < 256
    · simp -implicitDefEqProofs (disch := (first | omega | (simp -implicitDefEqProofs only [szs, ne_eq] <;> omega) | fail)) only [go_sem, Nat.reduceAdd, Nat.reduceSub, Nat.reduceMul, Nat.reduceLT, Nat.reduceMod, Nat.reduceDiv, Nat.reduceEqDiff, Nat.reduceBEq, Nat.reduceLeDiff, ↓reduceIte, reduceCtorEq, Int.reduceAdd, Int.reduceSub, Int.reduceLT, Int.reduceLE, Int.reduceBEq, Int.reduceEq, Int.reduceToNat, ir35]
      simp [h0, h1]
    · simp -implicitDefEqProofs (disch := (first | omega | (simp -implicitDefEqProofs only [szs, ne_eq] <;> omega) | fail)) only [go_sem, Nat.reduceAdd, Nat.reduceSub, Nat.reduceMul, Nat.reduceLT, Nat.reduceMod, Nat.reduceDiv, Nat.reduceEqDiff, Nat.reduceBEq, Nat.reduceLeDiff, ↓reduceIte, reduceCtorEq, Int.reduceAdd, Int.reduceSub, Int.reduceLT, Int.reduceLE, Int.reduceBEq, Int.reduceEq, Int.reduceToNat, ir35]
      simp [h1]
  · simp -implicitDefEqProofs (disch := (first | omega | (simp -implicitDefEqProofs only [szs, ne_eq] <;> omega) | fail)) only [go_sem, Nat.reduceAdd, Nat.reduceSub, Nat.reduceMul, Nat.reduceLT, Nat.reduceMod, Nat.reduceDiv, Nat.reduceEqDiff, Nat.reduceBEq, Nat.reduceLeDiff, ↓reduceIte, reduceCtorEq, Int.reduceAdd, Int.reduceSub, Int.reduceLT, Int.reduceLE, Int.reduceBEq, Int.reduceEq, Int.reduceToNat, ir35]
    simp [h0]
theorem byte_bad {h : Heap} {R W : Set'} {bp : Nat} {L : PL} {S : PS} (hp : PoolAt h bp L S) (hR : R bp) (k at' : Int) (hk : ¬ (0 ≤ at' ∧ at' < 256)) :
    SF Try.prog 18 [.ptr (some (bp, 0)), .int .i64 k, .int .i64 at'] h R W fun v h' => v = .tuple [.int .u8 0, .int .i64 2] ∧ h' = h := by
  refine SF.go hm Try.func18 ir18_eq ?_
  simp -implicitDefEqProofs (disch := (first | omega | (simp -implicitDefEqProofs only [szs, ne_eq] <;> omega) | fail)) only [go_sem, Nat.reduceAdd, Nat.reduceSub, Nat.reduceMul, Nat.reduceLT, Nat.reduceMod, Nat.reduceDiv, Nat.reduceEqDiff, Nat.reduceBEq, Nat.reduceLeDiff, ↓reduceIte, reduceCtorEq, Int.reduceAdd, Int.reduceSub, Int.reduceLT, Int.reduceLE, Int.reduceBEq, Int.reduceEq, Int.reduceToNat, ir18]
  refine GCall.of (there_ok hp (.inr hR)) ?_
  rintro v h' ⟨rfl, rfl⟩
  simp -implicitDefEqProofs (disch := (first | omega | (simp -implicitDefEqProofs only [szs, ne_eq] <;> omega) | fail)) only [go_sem, Nat.reduceAdd, Nat.reduceSub, Nat.reduceMul, Nat.reduceLT, Nat.reduceMod, Nat.reduceDiv, Nat.reduceEqDiff, Nat.reduceBEq, Nat.reduceLeDiff, ↓reduceIte, reduceCtorEq, Int.reduceAdd, Int.reduceSub, Int.reduceLT, Int.reduceLE, Int.reduceBEq, Int.reduceEq, Int.reduceToNat]
  refine GCall.of (place_ok at') ?_
  rintro v h' ⟨rfl, rfl⟩
  have e : decide (0 ≤ at' ∧ at' < 256) = false := by simpa using hk
  rw [e]
  simp -implicitDefEqProofs (disch := (first | omega | (simp -implicitDefEqProofs only [szs, ne_eq] <;> omega) | fail)) only [go_sem, Nat.reduceAdd, Nat.reduceSub, Nat.reduceMul, Nat.reduceLT, Nat.reduceMod, Nat.reduceDiv, Nat.reduceEqDiff, Nat.reduceBEq, Nat.reduceLeDiff, ↓reduceIte, reduceCtorEq, Int.reduceAdd, Int.reduceSub, Int.reduceLT, Int.reduceLE, Int.reduceBEq, Int.reduceEq, Int.reduceToNat]
theorem byte_at {h : Heap} {R W : Set'} {bp : Nat} {L : PL} {S : PS} (hp : PoolAt h bp L S) (hR : R bp) (hRf : R L.fb) {i j : Nat} (hi : i < S.n) (h0 : S.ho i ≠ 0) (hj : j < 256) :
    SF Try.prog 18 [.ptr (some (bp, 0)), .int .i64 i, .int .i64 j] h R W fun v h' => v = .tuple [.int .u8 (S.byt i j), .int .i64 0] ∧ h' = h := by
  obtain ⟨f, hf, if'⟩ := hp.f
  have fs := if'.size
  have g1 := if'.byt i j hi hj
  refine SF.go hm Try.func18 ir18_eq ?_
  simp -implicitDefEqProofs (disch := (first | omega | (simp -implicitDefEqProofs only [szs, ne_eq] <;> omega) | fail)) only [go_sem, Nat.reduceAdd, Nat.reduceSub, Nat.reduceMul, Nat.reduceLT, Nat.reduceMod, Nat.reduceDiv, Nat.reduceEqDiff, Nat.reduceBEq, Nat.reduceLeDiff, ↓reduceIte, reduceCtorEq, Int.reduceAdd, Int.reduceSub, Int.reduceLT, Int.reduceLE, Int.reduceBEq, Int.reduceEq, Int.reduceToNat, ir18]
  refine GCall.of (there_ok hp (.inr hR)) ?_
  rintro v h' ⟨rfl, rfl⟩
  simp -implicitDefEqProofs (disch := (first | omega | (simp -implicitDefEqProofs only [szs, ne_eq] <;> omega) | fail)) only [go_sem, Nat.reduceAdd, Nat.reduceSub, Nat.reduceMul, Nat.reduceLT, Nat.reduceMod, Nat.reduceDiv, Nat.reduceEqDiff, Nat.reduceBEq, Nat.reduceLeDiff, ↓reduceIte, reduceCtorEq, Int.reduceAdd, Int.reduceSub, Int.reduceLT, Int.reduceLE, Int.reduceBEq, Int.reduceEq, Int.reduceToNat]
  refine GCall.of (place_ok j) ?_
  rintro v h' ⟨rfl, rfl⟩
  have e : decide (0 ≤ (j : Int) ∧ (j : Int) < 256) = true := by simp; omega
  rw [e]
  simp -implicitDefEqProofs (disch := (first | omega | (simp -implicitDefEqProofs only [szs, ne_eq] <;> omega) | fail)) only [go_sem, Nat.reduceAdd, Nat.reduceSub, Nat.reduceMul, Nat.reduceLT, Nat.reduceMod, Nat.reduceDiv, Nat.reduceEqDiff, Nat.reduceBEq, Nat.reduceLeDiff, ↓reduceIte, reduceCtorEq, Int.reduceAdd, Int.reduceSub, Int.reduceLT, Int.reduceLE, Int.reduceBEq, Int.reduceEq, Int.reduceToNat]
  refine GCall.of (at_yes hp (.inr hR) (.inr hRf) i hi h0) ?_
  rintro v h' ⟨rfl, rfl⟩
  simp -implicitDefEqProofs (disch := (first | omega | (simp -implicitDefEqProofs only [szs, ne_eq] <;> omega) | fail)) only [go_sem, Nat.reduceAdd, Nat.reduceSub, Nat.reduceMul, Nat.reduceLT, Nat.reduceMod, Nat.reduceDiv, Nat.reduceEqDiff, Nat.reduceBEq, Nat.reduceLeDiff, ↓reduceIte, reduceCtorEq, Int.reduceAdd, Int.reduceSub, Int.reduceLT, Int.reduceLE, Int.reduceBEq, Int.reduceEq, Int.reduceToNat, hf, g1, hRf]
theorem clone_page {h : Heap} {R W : Set'} {b o : Nat} {c : Blk} {ce : TypeId} (hb : h.get b = some (.cells c ce)) (hsz : o + 256 ≤ c.size) (hR : R b) {cap : Nat} :
    SF Try.prog 34 [.slice (some (b, o)) 256 cap true] h R W fun v h' => v = .slice (some (h.n + 1, 0)) 256 256 false ∧ h' = (h.push (.cells (Blk.of []) 5)).push (.cells (Blk.of (c.gets o 256)) 5) := by
  have hlt := Heap.lt_of_get hb
  refine SF.go hm Try.func34 ir34_eq ?_
  have hA := append_whole (e := 5) (bytes := 1) (eb := h.n) (cap := cap) (ex := true) (h := h.push (.cells (Blk.of []) 5)) (te := 5) (b := b) (o := o) (m := 256) (c := c) (ce := ce) (by rw [w_push_eq rfl]) (by rw [w_push_ne (show b ≠ h.n by omega)]; exact hb) hsz (by omega) (by omega) (by omega)
  simp -implicitDefEqProofs (disch := (first | omega | (simp -implicitDefEqProofs only [szs, ne_eq] <;> omega) | fail)) only [go_sem, Nat.reduceAdd, Nat.reduceSub, Nat.reduceMul, Nat.reduceLT, Nat.reduceMod, Nat.reduceDiv, Nat.reduceEqDiff, Nat.reduceBEq, Nat.reduceLeDiff, ↓reduceIte, reduceCtorEq, Int.reduceAdd, Int.reduceSub, Int.reduceLT, Int.reduceLE, Int.reduceBEq, Int.reduceEq, Int.reduceToNat, ir34, Try.underlying35, appendV_of ap_35, ↓hA, hR]
/-- A slice of bytes. -/
structure BytesV (h : Heap) (R : Set') (v : V) (m : Nat) (g : Nat → Int) : Prop where
  len : m ≤ 9223372036854775807
  at' : (m = 0 ∧ (v = .slice none 0 0 true ∨ ∃ a, v = .esl a)) ∨ ∃ b o cap c ce, v = .slice (some (b, o)) m cap true ∧ R b ∧ h.get b = some (.cells c ce) ∧ o + m ≤ c.size ∧ ∀ i, i < m → c.get (o + i) = .int .u8 (g i)
theorem one_int (l : List V) : (∀ j, j < l.length → ∃ k n, l.getD j undefV = .int k n) → allOne l = true := by
  induction l with
  | nil => intro _; rfl
  | cons v r ih =>
    intro h
    obtain ⟨k, n, e⟩ := h 0 (by simp)
    have e : v = .int k n := e
    subst e
    exact ih fun j hj => by
      have := h (j + 1) (by simpa using hj)
      exact this
theorem slice65 (b off j : Nat) (hj : j < 256) : sliceV Try.prog 65 (.ptr (some (b, off))) (some (j : Int)) none none = some (.slice (some (b, off + j)) (256 - j) (256 - j) true) := by
  have h1 : Nat.beq 256 j = false := by
    cases h : Nat.beq 256 j with
    | false => rfl
    | true => have := Nat.eq_of_beq_eq_true h; omega
  have e1 : boundsV 256 256 (some (j : Int)) none none = some (j, 256, 256) := by
    have e2 : (0 : Int) ≤ (j : Int) ∧ (j : Int) ≤ ((256 : Nat) : Int) := by omega
    simp only [boundsV, if_pos e2, Int.toNat_natCast]
  simp only [sliceV, Try.underlying65, sz_5, e1, h1, Nat.mul_one]
def PS.put (S : PS) (i j m : Nat) (g : Nat → Int) : PS := { S with byt := fun x y => if x = i ∧ j ≤ y ∧ y < j + m then g (y - j) else S.byt x y }
theorem PoolAt.put1 {h : Heap} {bp : Nat} {L : PL} {S : PS} (hp : PoolAt h bp L S) {d : Blk} (hd : h.get L.fb = some (.cells d 67)) {i j m : Nat} (hi : i < S.n) {g : Nat → Int} (hj : j + m ≤ 256) {vs : List V} (hl : vs.length = m) (hg : ∀ j, j < m → vs.getD j undefV = .int .u8 (g j)) :
    PoolAt (h.set L.fb (.cells (d.putA (i * 258 + 2 + j) vs) 67)) bp L (S.put i j m g) := by
  obtain ⟨c, h1, ic⟩ := hp.p
  obtain ⟨d', h2, id⟩ := hp.f
  obtain ⟨q, h3, iq⟩ := hp.q
  obtain ⟨u', h4, iu⟩ := hp.u
  rw [h2] at hd; cases hd
  have e1 : bp ≠ L.fb := fun e => by rw [e, h2] at h1; cases h1
  have e2 : L.qb ≠ L.fb := fun e => by rw [e, h2] at h3; cases h3
  have e3 : L.ub ≠ L.fb := fun e => by rw [e, h2] at h4; cases h4
  have gp : ∀ x, x < d.size → (d.putA (i * 258 + 2 + j) vs).get x = if i * 258 + 2 + j ≤ x ∧ x < i * 258 + 2 + j + m then vs.getD (x - (i * 258 + 2 + j)) undefV else d.get x := fun x hx => by
    rw [Blk.get_putA _ _ _ _ hx, hl]
  have hsz := id.size
  have lt : ∀ j k, j < S.n → k < 258 → j * 258 + k < d.size := fun j k hj hk => by rw [hsz]; omega
  refine ⟨hp.pos, ⟨c, ?_, ⟨ic.size, ic.c0, ic.c1, ic.c2⟩⟩, ⟨d.putA (i * 258 + 2 + j) vs, ?_, ⟨by rw [Blk.size_putA]; exact id.size, by rw [Blk.ro_putA]; exact id.ro, fun x hx => ?_, fun x hx => ?_, fun x k hx hk => ?_⟩⟩, ⟨q, ?_, ⟨iq.size, iq.ro, iq.get⟩⟩, ⟨u', ?_, ⟨iu.size, iu.ro, iu.get⟩⟩, hp.ne, hp.lo⟩
  · rw [Heap.set_at h2, if_neg e1]; exact h1
  · rw [Heap.set_at h2, if_pos rfl]
  · rw [gp _ (show x * 258 < d.size from lt x 0 hx (by omega)), if_neg (by omega)]; exact id.ow x hx
  · rw [gp _ (lt x 1 hx (by omega)), if_neg (by omega)]; exact id.ho x hx
  · have := lt x (2 + k) hx (by omega)
    rw [gp _ (by omega)]
    by_cases e : x = i ∧ j ≤ k ∧ k < j + m
    · obtain ⟨rfl, ea, eb⟩ := e
      rw [if_pos (by omega), show x * 258 + 2 + k - (x * 258 + 2 + j) = k - j by omega, hg _ (by omega)]
      simp [PS.put, ea, eb]
    · rw [if_neg (by omega)]; simp only [PS.put, if_neg e]; exact id.byt x k hx hk
  · rw [Heap.set_at h2, if_neg e2]; exact h3
  · rw [Heap.set_at h2, if_neg e3]; exact h4
end Go.Proofs.Ytfgdpgagcnelpaa
