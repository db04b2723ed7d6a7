/- The pool: where it lies, and what its small functions answer. -/
import Derived.Test.YtfgdpgagcnelpaaTy
import Derived.Test.YtfgdpgagcnelpaaIr
import Derived.Test.YtfgdpgagcnelpaaV4
import Derived.IntWalk
set_option linter.unusedVariables false
set_option linter.unusedSimpArgs false
set_option linter.unusedSimpArgs false
set_option maxRecDepth 100000
set_option linter.unusedVariables false
set_option linter.unusedSimpArgs false
namespace Go.Proofs.Ytfgdpgagcnelpaa
open Go Go.Vm

structure PL where
  fb : Nat
  qb : Nat
  ub : Nat
  fcap : Nat
  qcap : Nat
  ucap : Nat
  fex : Bool
  qex : Bool
  uex : Bool
structure PS where
  n : Nat
  na : Nat
  ow : Nat → Int
  ho : Nat → Int
  byt : Nat → Nat → Int
  qu : Nat → Int
  us : Nat → Int
structure IsPool (L : PL) (S : PS) (c : Blk) : Prop where
  size : c.size = 3
  c0 : c.get 0 = .slice (some (L.fb, 0)) S.n L.fcap L.fex
  c1 : c.get 1 = .slice (some (L.qb, 0)) S.na L.qcap L.qex
  c2 : c.get 2 = .slice (some (L.ub, 0)) S.na L.ucap L.uex
structure IsFrames (S : PS) (c : Blk) : Prop where
  size : c.size = S.n * 258
  ro : c.ro = false
  ow : ∀ i, i < S.n → c.get (i * 258) = .int .i64 (S.ow i)
  ho : ∀ i, i < S.n → c.get (i * 258 + 1) = .int .i64 (S.ho i)
  byt : ∀ i j, i < S.n → j < 256 → c.get (i * 258 + 2 + j) = .int .u8 (S.byt i j)
structure IsInts (n : Nat) (g : Nat → Int) (c : Blk) : Prop where
  size : n ≤ c.size
  ro : c.ro = false
  get : ∀ i, i < n → c.get i = .int .i64 (g i)
structure PoolAt (h : Heap) (bp : Nat) (L : PL) (S : PS) : Prop where
  pos : 0 < S.n
  p : ∃ c, h.get bp = some (.cells c 61) ∧ IsPool L S c
  f : ∃ c, h.get L.fb = some (.cells c 67) ∧ IsFrames S c
  q : ∃ c, h.get L.qb = some (.cells c 3) ∧ IsInts S.na S.qu c
  u : ∃ c, h.get L.ub = some (.cells c 3) ∧ IsInts S.na S.us c
  ne : L.qb ≠ L.ub
  lo : S.n ≤ 65536 ∧ S.na ≤ 65536

def PS.setHo (S : PS) (i : Nat) (k : Int) : PS := { S with ho := fun j => if j = i then k else S.ho j }
def PS.setUs (S : PS) (i : Nat) (k : Int) : PS := { S with us := fun j => if j = i then k else S.us j }
theorem PoolAt.set_ho {h : Heap} {bp : Nat} {L : PL} {S : PS} (hp : PoolAt h bp L S) {d : Blk} (hd : h.get L.fb = some (.cells d 67)) {i : Nat} (hi : i < S.n) (k : Int) :
    PoolAt (h.set L.fb (.cells (d.set (i * 258 + 1) (.int .i64 k)) 67)) bp L (S.setHo i k) := by
  obtain ⟨c, h1, ic⟩ := hp.p
  obtain ⟨d', h2, id⟩ := hp.f
  obtain ⟨q, h3, iq⟩ := hp.q
  obtain ⟨u, h4, iu⟩ := hp.u
  rw [h2] at hd; cases hd
  have e1 : bp ≠ L.fb := fun e => by rw [e, h2] at h1; cases h1
  have e2 : L.qb ≠ L.fb := fun e => by rw [e, h2] at h3; cases h3
  have e3 : L.ub ≠ L.fb := fun e => by rw [e, h2] at h4; cases h4
  refine ⟨hp.pos, ⟨c, ?_, ⟨ic.size, ic.c0, ic.c1, ic.c2⟩⟩, ⟨d.set (i * 258 + 1) (.int .i64 k), ?_, ⟨by rw [Blk.size_set]; exact id.size, by rw [Blk.ro_set]; exact id.ro, fun j hj => ?_, fun j hj => ?_, fun j k hj hk => ?_⟩⟩, ⟨q, ?_, ⟨iq.size, iq.ro, iq.get⟩⟩, ⟨u, ?_, ⟨iu.size, iu.ro, iu.get⟩⟩, hp.ne, hp.lo⟩
  · rw [Heap.set_at h2, if_neg e1]; exact h1
  · rw [Heap.set_at h2, if_pos rfl]
  · rw [Blk.get_set, if_neg (by omega)]; exact id.ow j hj
  · rw [Blk.get_set]
    by_cases e : j = i
    · subst e; simp [PS.setHo]
    · rw [if_neg (by omega)]; simp only [PS.setHo, if_neg e]; exact id.ho j hj
  · rw [Blk.get_set, if_neg (by omega)]; exact id.byt j k hj hk
  · rw [Heap.set_at h2, if_neg e2]; exact h3
  · rw [Heap.set_at h2, if_neg e3]; exact h4
theorem PoolAt.set_us {h : Heap} {bp : Nat} {L : PL} {S : PS} (hp : PoolAt h bp L S) {d : Blk} (hd : h.get L.ub = some (.cells d 3)) {i : Nat} (hi : i < S.na) (k : Int) :
    PoolAt (h.set L.ub (.cells (d.set i (.int .i64 k)) 3)) bp L (S.setUs i k) := by
  obtain ⟨c, h1, ic⟩ := hp.p
  obtain ⟨f, h2, id⟩ := hp.f
  obtain ⟨q, h3, iq⟩ := hp.q
  obtain ⟨u, h4, iu⟩ := hp.u
  rw [h4] at hd; cases hd
  have e1 : bp ≠ L.ub := fun e => by rw [e, h4] at h1; cases h1
  have e2 : L.fb ≠ L.ub := fun e => by rw [e, h4] at h2; cases h2
  refine ⟨hp.pos, ⟨c, ?_, ⟨ic.size, ic.c0, ic.c1, ic.c2⟩⟩, ⟨f, ?_, ⟨id.size, id.ro, id.ow, id.ho, id.byt⟩⟩, ⟨q, ?_, ⟨iq.size, iq.ro, iq.get⟩⟩, ⟨d.set i (.int .i64 k), ?_, ⟨by rw [Blk.size_set]; exact iu.size, by rw [Blk.ro_set]; exact iu.ro, fun j hj => ?_⟩⟩, hp.ne, hp.lo⟩
  · rw [Heap.set_at h4, if_neg e1]; exact h1
  · rw [Heap.set_at h4, if_neg e2]; exact h2
  · rw [Heap.set_at h4, if_neg hp.ne]; exact h3
  · rw [Heap.set_at h4, if_pos rfl]
  · rw [Blk.get_set]
    by_cases e : j = i
    · subst e; simp [PS.setUs]
    · rw [if_neg e]; simp only [PS.setUs, if_neg e]; exact iu.get j hj

theorem there_ok {h : Heap} {R W : Set'} {bp : Nat} {L : PL} {S : PS} (hp : PoolAt h bp L S) (hR : R bp) : SF Try.prog 30 [.ptr (some (bp, 0))] h R W fun v h' => v = .bool true ∧ h' = h := by
  obtain ⟨c, h1, ic⟩ := hp.p
  have h2 : Nat.blt 0 c.size = true := blt_true (by rw [ic.size]; omega)
  have h3 := ic.c0
  have h4 := hp.pos
  refine SF.go hm Try.func30 ir30_eq ?_
  simp -implicitDefEqProofs only [go_sem, List.length_cons, List.length_nil, Nat.one_mod, Nat.zero_div, List.getElem?_cons_zero, List.getElem?_cons_succ, List.getElem?_toArray, List.getElem?_nil, Bool.not_false, Bool.not_true, beq_self_eq_true, Bool.not_eq_true, true_and, and_true, true_or, or_true, false_or, or_false, List.append_nil, List.nil_append, List.cons_append, Option.map_some, Option.map_none, Option.some.injEq, decide_true, decide_false, if_true, if_false, Bool.false_eq_true, gt_iff_lt, ge_iff_le, Nat.zero_add, Nat.add_zero, Nat.zero_mul, Nat.mul_zero, Nat.mul_one, Nat.one_mul, implies_true, Nat.reduceAdd, Nat.reduceSub, Nat.reduceMul, Nat.reduceLT, Nat.reduceMod, Nat.reduceDiv, Nat.reduceEqDiff, Nat.reduceBEq, Nat.reduceLeDiff, ↓reduceIte, reduceCtorEq, Int.reduceAdd, Int.reduceSub, Int.reduceLT, Int.reduceLE, Int.reduceBEq, Int.reduceEq, Int.reduceToNat, ir30, h1, h2, h3, hR]
  simp; omega

theorem account_ok {h : Heap} {R W : Set'} {bp : Nat} {L : PL} {S : PS} (hp : PoolAt h bp L S) (hR : R bp) (k : Int) : SF Try.prog 31 [.ptr (some (bp, 0)), .int .i64 k] h R W fun v h' => v = .bool (decide (0 ≤ k ∧ k < S.na)) ∧ h' = h := by
  obtain ⟨c, h1, ic⟩ := hp.p
  have h2 : Nat.blt 1 c.size = true := blt_true (by rw [ic.size]; omega)
  have h3 := ic.c1
  refine SF.go hm Try.func31 ir31_eq ?_
  by_cases hk : 0 ≤ k
  · have e1 : decide (0 ≤ k) = true := by simpa using hk
    simp -implicitDefEqProofs only [go_sem, List.length_cons, List.length_nil, Nat.one_mod, Nat.zero_div, List.getElem?_cons_zero, List.getElem?_cons_succ, List.getElem?_toArray, List.getElem?_nil, Bool.not_false, Bool.not_true, beq_self_eq_true, Bool.not_eq_true, true_and, and_true, true_or, or_true, false_or, or_false, List.append_nil, List.nil_append, List.cons_append, Option.map_some, Option.map_none, Option.some.injEq, decide_true, decide_false, if_true, if_false, Bool.false_eq_true, gt_iff_lt, ge_iff_le, Nat.zero_add, Nat.add_zero, Nat.zero_mul, Nat.mul_zero, Nat.mul_one, Nat.one_mul, implies_true, Nat.reduceAdd, Nat.reduceSub, Nat.reduceMul, Nat.reduceLT, Nat.reduceMod, Nat.reduceDiv, Nat.reduceEqDiff, Nat.reduceBEq, Nat.reduceLeDiff, ↓reduceIte, reduceCtorEq, Int.reduceAdd, Int.reduceSub, Int.reduceLT, Int.reduceLE, Int.reduceBEq, Int.reduceEq, Int.reduceToNat, ir31, h1, h2, h3, hR, e1]
    simp [hk]
  · have e1 : decide (0 ≤ k) = false := by simpa using hk
    simp -implicitDefEqProofs only [go_sem, List.length_cons, List.length_nil, Nat.one_mod, Nat.zero_div, List.getElem?_cons_zero, List.getElem?_cons_succ, List.getElem?_toArray, List.getElem?_nil, Bool.not_false, Bool.not_true, beq_self_eq_true, Bool.not_eq_true, true_and, and_true, true_or, or_true, false_or, or_false, List.append_nil, List.nil_append, List.cons_append, Option.map_some, Option.map_none, Option.some.injEq, decide_true, decide_false, if_true, if_false, Bool.false_eq_true, gt_iff_lt, ge_iff_le, Nat.zero_add, Nat.add_zero, Nat.zero_mul, Nat.mul_zero, Nat.mul_one, Nat.one_mul, implies_true, Nat.reduceAdd, Nat.reduceSub, Nat.reduceMul, Nat.reduceLT, Nat.reduceMod, Nat.reduceDiv, Nat.reduceEqDiff, Nat.reduceBEq, Nat.reduceLeDiff, ↓reduceIte, reduceCtorEq, Int.reduceAdd, Int.reduceSub, Int.reduceLT, Int.reduceLE, Int.reduceBEq, Int.reduceEq, Int.reduceToNat, ir31, h1, h2, h3, hR, e1]
    simp [hk]

end Go.Proofs.Ytfgdpgagcnelpaa

namespace Go.Proofs.Ytfgdpgagcnelpaa
open Go Go.Vm

/-- The frame that is asked for is owned. -/
def Owned (S : PS) (k : Int) : Prop := 0 ≤ k ∧ k < S.n ∧ S.ho k.toNat ≠ 0

theorem at_yes {h : Heap} {R W : Set'} {bp : Nat} {L : PL} {S : PS} (hp : PoolAt h bp L S) (hR : R bp) (hRf : R L.fb) (i : Nat) (hi : i < S.n) (ho : S.ho i ≠ 0) : SF Try.prog 32 [.ptr (some (bp, 0)), .int .i64 i] h R W fun v h' => v = .tuple [.ptr (some (L.fb, i * 258)), .int .i64 0] ∧ h' = h := by
  obtain ⟨c, h1, ic⟩ := hp.p
  obtain ⟨d, h5, id⟩ := hp.f
  have h2 : Nat.blt 0 c.size = true := blt_true (by rw [ic.size]; omega)
  have h3 := ic.c0
  have h6 : Nat.blt (i * 258 + 1) d.size = true := blt_true (by rw [id.size]; omega)
  have h7 := id.ho i hi
  have e1 : decide ((i : Int) < 0) = false := by simp
  have e2 : decide ((S.n : Int) ≤ i) = false := by simp; omega
  have e3 : (S.ho i == 0) = false := by simpa using ho
  have e4 : (0 : Int) ≤ i ∧ (i : Int) < S.n := by omega
  have e5 : (i : Int).toNat = i := by omega
  refine SF.go hm Try.func32 ir32_eq ?_
  simp -implicitDefEqProofs only [go_sem, List.length_cons, List.length_nil, Nat.one_mod, Nat.zero_div, List.getElem?_cons_zero, List.getElem?_cons_succ, List.getElem?_toArray, List.getElem?_nil, Bool.not_false, Bool.not_true, beq_self_eq_true, Bool.not_eq_true, true_and, and_true, true_or, or_true, false_or, or_false, List.append_nil, List.nil_append, List.cons_append, Option.map_some, Option.map_none, Option.some.injEq, decide_true, decide_false, if_true, if_false, Bool.false_eq_true, gt_iff_lt, ge_iff_le, Nat.zero_add, Nat.add_zero, Nat.zero_mul, Nat.mul_zero, Nat.mul_one, Nat.one_mul, implies_true, Nat.reduceAdd, Nat.reduceSub, Nat.reduceMul, Nat.reduceLT, Nat.reduceMod, Nat.reduceDiv, Nat.reduceEqDiff, Nat.reduceBEq, Nat.reduceLeDiff, ↓reduceIte, reduceCtorEq, Int.reduceAdd, Int.reduceSub, Int.reduceLT, Int.reduceLE, Int.reduceBEq, Int.reduceEq, Int.reduceToNat, ir32]
  refine GCall.of (there_ok hp (.inr hR)) ?_
  rintro v h' ⟨rfl, rfl⟩
  simp -implicitDefEqProofs only [go_sem, List.length_cons, List.length_nil, Nat.one_mod, Nat.zero_div, List.getElem?_cons_zero, List.getElem?_cons_succ, List.getElem?_toArray, List.getElem?_nil, Bool.not_false, Bool.not_true, beq_self_eq_true, Bool.not_eq_true, true_and, and_true, true_or, or_true, false_or, or_false, List.append_nil, List.nil_append, List.cons_append, Option.map_some, Option.map_none, Option.some.injEq, decide_true, decide_false, if_true, if_false, Bool.false_eq_true, gt_iff_lt, ge_iff_le, Nat.zero_add, Nat.add_zero, Nat.zero_mul, Nat.mul_zero, Nat.mul_one, Nat.one_mul, implies_true, Nat.reduceAdd, Nat.reduceSub, Nat.reduceMul, Nat.reduceLT, Nat.reduceMod, Nat.reduceDiv, Nat.reduceEqDiff, Nat.reduceBEq, Nat.reduceLeDiff, ↓reduceIte, reduceCtorEq, Int.reduceAdd, Int.reduceSub, Int.reduceLT, Int.reduceLE, Int.reduceBEq, Int.reduceEq, Int.reduceToNat, h1, h2, h3, hR, e1, e2, e4, e5, h5, h6, h7, hRf, e3]

theorem at_no {h : Heap} {R W : Set'} {bp : Nat} {L : PL} {S : PS} (hp : PoolAt h bp L S) (hR : R bp) (hRf : R L.fb) (k : Int) (hk : ¬ Owned S k) : SF Try.prog 32 [.ptr (some (bp, 0)), .int .i64 k] h R W fun v h' => v = .tuple [.ptr none, .int .i64 6] ∧ h' = h := by
  obtain ⟨c, h1, ic⟩ := hp.p
  obtain ⟨d, h5, id⟩ := hp.f
  have h2 : Nat.blt 0 c.size = true := blt_true (by rw [ic.size]; omega)
  have h3 := ic.c0
  refine SF.go hm Try.func32 ir32_eq ?_
  simp -implicitDefEqProofs only [go_sem, List.length_cons, List.length_nil, Nat.one_mod, Nat.zero_div, List.getElem?_cons_zero, List.getElem?_cons_succ, List.getElem?_toArray, List.getElem?_nil, Bool.not_false, Bool.not_true, beq_self_eq_true, Bool.not_eq_true, true_and, and_true, true_or, or_true, false_or, or_false, List.append_nil, List.nil_append, List.cons_append, Option.map_some, Option.map_none, Option.some.injEq, decide_true, decide_false, if_true, if_false, Bool.false_eq_true, gt_iff_lt, ge_iff_le, Nat.zero_add, Nat.add_zero, Nat.zero_mul, Nat.mul_zero, Nat.mul_one, Nat.one_mul, implies_true, Nat.reduceAdd, Nat.reduceSub, Nat.reduceMul, Nat.reduceLT, Nat.reduceMod, Nat.reduceDiv, Nat.reduceEqDiff, Nat.reduceBEq, Nat.reduceLeDiff, ↓reduceIte, reduceCtorEq, Int.reduceAdd, Int.reduceSub, Int.reduceLT, Int.reduceLE, Int.reduceBEq, Int.reduceEq, Int.reduceToNat, ir32]
  refine GCall.of (there_ok hp (.inr hR)) ?_
  rintro v h' ⟨rfl, rfl⟩
  by_cases k0 : k < 0
  · have e1 : decide (k < 0) = true := by simpa using k0
    simp -implicitDefEqProofs only [go_sem, List.length_cons, List.length_nil, Nat.one_mod, Nat.zero_div, List.getElem?_cons_zero, List.getElem?_cons_succ, List.getElem?_toArray, List.getElem?_nil, Bool.not_false, Bool.not_true, beq_self_eq_true, Bool.not_eq_true, true_and, and_true, true_or, or_true, false_or, or_false, List.append_nil, List.nil_append, List.cons_append, Option.map_some, Option.map_none, Option.some.injEq, decide_true, decide_false, if_true, if_false, Bool.false_eq_true, gt_iff_lt, ge_iff_le, Nat.zero_add, Nat.add_zero, Nat.zero_mul, Nat.mul_zero, Nat.mul_one, Nat.one_mul, implies_true, Nat.reduceAdd, Nat.reduceSub, Nat.reduceMul, Nat.reduceLT, Nat.reduceMod, Nat.reduceDiv, Nat.reduceEqDiff, Nat.reduceBEq, Nat.reduceLeDiff, ↓reduceIte, reduceCtorEq, Int.reduceAdd, Int.reduceSub, Int.reduceLT, Int.reduceLE, Int.reduceBEq, Int.reduceEq, Int.reduceToNat, h1, h2, h3, hR, e1]
  · have e1 : decide (k < 0) = false := by simpa using k0
    by_cases k1 : (S.n : Int) ≤ k
    · have e2 : decide ((S.n : Int) ≤ k) = true := by simpa using k1
      simp -implicitDefEqProofs only [go_sem, List.length_cons, List.length_nil, Nat.one_mod, Nat.zero_div, List.getElem?_cons_zero, List.getElem?_cons_succ, List.getElem?_toArray, List.getElem?_nil, Bool.not_false, Bool.not_true, beq_self_eq_true, Bool.not_eq_true, true_and, and_true, true_or, or_true, false_or, or_false, List.append_nil, List.nil_append, List.cons_append, Option.map_some, Option.map_none, Option.some.injEq, decide_true, decide_false, if_true, if_false, Bool.false_eq_true, gt_iff_lt, ge_iff_le, Nat.zero_add, Nat.add_zero, Nat.zero_mul, Nat.mul_zero, Nat.mul_one, Nat.one_mul, implies_true, Nat.reduceAdd, Nat.reduceSub, Nat.reduceMul, Nat.reduceLT, Nat.reduceMod, Nat.reduceDiv, Nat.reduceEqDiff, Nat.reduceBEq, Nat.reduceLeDiff, ↓reduceIte, reduceCtorEq, Int.reduceAdd, Int.reduceSub, Int.reduceLT, Int.reduceLE, Int.reduceBEq, Int.reduceEq, Int.reduceToNat, h1, h2, h3, hR, e1, e2]
    · have e2 : decide ((S.n : Int) ≤ k) = false := by simpa using k1
      obtain ⟨i, rfl⟩ := Int.eq_ofNat_of_zero_le (show 0 ≤ k by omega)
      have hi : i < S.n := by omega
      have hz : S.ho i = 0 := by
        by_cases e : S.ho i = 0
        · exact e
        · exact absurd ⟨by omega, by omega, by simpa using e⟩ hk
      have h6 : Nat.blt (i * 258 + 1) d.size = true := blt_true (by rw [id.size]; omega)
      have h7 := id.ho i hi
      have e3 : (S.ho i == 0) = true := by simpa using hz
      have e4 : (0 : Int) ≤ i ∧ (i : Int) < S.n := by omega
      have e5 : (i : Int).toNat = i := by omega
      simp -implicitDefEqProofs only [go_sem, List.length_cons, List.length_nil, Nat.one_mod, Nat.zero_div, List.getElem?_cons_zero, List.getElem?_cons_succ, List.getElem?_toArray, List.getElem?_nil, Bool.not_false, Bool.not_true, beq_self_eq_true, Bool.not_eq_true, true_and, and_true, true_or, or_true, false_or, or_false, List.append_nil, List.nil_append, List.cons_append, Option.map_some, Option.map_none, Option.some.injEq, decide_true, decide_false, if_true, if_false, Bool.false_eq_true, gt_iff_lt, ge_iff_le, Nat.zero_add, Nat.add_zero, Nat.zero_mul, Nat.mul_zero, Nat.mul_one, Nat.one_mul, implies_true, Nat.reduceAdd, Nat.reduceSub, Nat.reduceMul, Nat.reduceLT, Nat.reduceMod, Nat.reduceDiv, Nat.reduceEqDiff, Nat.reduceBEq, Nat.reduceLeDiff, ↓reduceIte, reduceCtorEq, Int.reduceAdd, Int.reduceSub, Int.reduceLT, Int.reduceLE, Int.reduceBEq, Int.reduceEq, Int.reduceToNat, h1, h2, h3, hR, e1, e2, e4, e5, h5, h6, h7, hRf, e3]

end Go.Proofs.Ytfgdpgagcnelpaa

namespace Go.Proofs.Ytfgdpgagcnelpaa
open Go Go.Vm

theorem hold_ok {h : Heap} {R W : Set'} {bp : Nat} {L : PL} {S : PS} (hp : PoolAt h bp L S) (hR : R bp) (hRf : R L.fb) (hWf : W L.fb) (i : Nat) (hi : i < S.n) (ho : S.ho i ≠ 0) (h1 : S.ho i ≠ 65535) (h2 : 0 ≤ S.ho i ∧ S.ho i ≤ 65535) :
    SF Try.prog 12 [.ptr (some (bp, 0)), .int .i64 i] h R W fun v h' => v = .int .i64 0 ∧ PoolAt h' bp L (S.setHo i (S.ho i + 1)) := by
  obtain ⟨d, h5, id⟩ := hp.f
  have h6 : Nat.blt (i * 258 + 1) d.size = true := blt_true (by rw [id.size]; omega)
  have h7 := id.ho i hi
  have e3 : (S.ho i == 65535) = false := by simpa using h1
  have e4 := IntWalk.i64_in (S.ho i + 1) (by omega)
  refine SF.go hm Try.func12 ir12_eq ?_
  simp -implicitDefEqProofs only [go_sem, List.length_cons, List.length_nil, Nat.one_mod, Nat.zero_div, List.getElem?_cons_zero, List.getElem?_cons_succ, List.getElem?_toArray, List.getElem?_nil, Bool.not_false, Bool.not_true, beq_self_eq_true, Bool.not_eq_true, true_and, and_true, true_or, or_true, false_or, or_false, List.append_nil, List.nil_append, List.cons_append, Option.map_some, Option.map_none, Option.some.injEq, decide_true, decide_false, if_true, if_false, Bool.false_eq_true, gt_iff_lt, ge_iff_le, Nat.zero_add, Nat.add_zero, Nat.zero_mul, Nat.mul_zero, Nat.mul_one, Nat.one_mul, implies_true, Nat.reduceAdd, Nat.reduceSub, Nat.reduceMul, Nat.reduceLT, Nat.reduceMod, Nat.reduceDiv, Nat.reduceEqDiff, Nat.reduceBEq, Nat.reduceLeDiff, ↓reduceIte, reduceCtorEq, Int.reduceAdd, Int.reduceSub, Int.reduceLT, Int.reduceLE, Int.reduceBEq, Int.reduceEq, Int.reduceToNat, ir12]
  refine GCall.of (at_yes hp (.inr hR) (.inr hRf) i hi ho) ?_
  rintro v h' ⟨rfl, rfl⟩
  have hro := id.ro
  simp -implicitDefEqProofs (disch := (first | omega | (simp -implicitDefEqProofs only [szs, ne_eq] <;> omega) | fail)) only [go_sem, Nat.reduceAdd, Nat.reduceSub, Nat.reduceMul, Nat.reduceLT, Nat.reduceMod, Nat.reduceDiv, Nat.reduceEqDiff, Nat.reduceBEq, Nat.reduceLeDiff, ↓reduceIte, reduceCtorEq, Int.reduceAdd, Int.reduceSub, Int.reduceLT, Int.reduceLE, Int.reduceBEq, Int.reduceEq, Int.reduceToNat, h5, h6, h7, e3, e4, hRf, hWf, hro]
  exact hp.set_ho h5 hi _
theorem hold_full {h : Heap} {R W : Set'} {bp : Nat} {L : PL} {S : PS} (hp : PoolAt h bp L S) (hR : R bp) (hRf : R L.fb) (i : Nat) (hi : i < S.n) (h1 : S.ho i = 65535) :
    SF Try.prog 12 [.ptr (some (bp, 0)), .int .i64 i] h R W fun v h' => v = .int .i64 5 ∧ h' = h := by
  obtain ⟨d, h5, id⟩ := hp.f
  have h6 : Nat.blt (i * 258 + 1) d.size = true := blt_true (by rw [id.size]; omega)
  have h7 := id.ho i hi
  rw [h1] at h7
  refine SF.go hm Try.func12 ir12_eq ?_
  simp -implicitDefEqProofs only [go_sem, List.length_cons, List.length_nil, Nat.one_mod, Nat.zero_div, List.getElem?_cons_zero, List.getElem?_cons_succ, List.getElem?_toArray, List.getElem?_nil, Bool.not_false, Bool.not_true, beq_self_eq_true, Bool.not_eq_true, true_and, and_true, true_or, or_true, false_or, or_false, List.append_nil, List.nil_append, List.cons_append, Option.map_some, Option.map_none, Option.some.injEq, decide_true, decide_false, if_true, if_false, Bool.false_eq_true, gt_iff_lt, ge_iff_le, Nat.zero_add, Nat.add_zero, Nat.zero_mul, Nat.mul_zero, Nat.mul_one, Nat.one_mul, implies_true, Nat.reduceAdd, Nat.reduceSub, Nat.reduceMul, Nat.reduceLT, Nat.reduceMod, Nat.reduceDiv, Nat.reduceEqDiff, Nat.reduceBEq, Nat.reduceLeDiff, ↓reduceIte, reduceCtorEq, Int.reduceAdd, Int.reduceSub, Int.reduceLT, Int.reduceLE, Int.reduceBEq, Int.reduceEq, Int.reduceToNat, ir12]
  refine GCall.of (at_yes hp (.inr hR) (.inr hRf) i hi (by omega)) ?_
  rintro v h' ⟨rfl, rfl⟩
  simp -implicitDefEqProofs only [go_sem, List.length_cons, List.length_nil, Nat.one_mod, Nat.zero_div, List.getElem?_cons_zero, List.getElem?_cons_succ, List.getElem?_toArray, List.getElem?_nil, Bool.not_false, Bool.not_true, beq_self_eq_true, Bool.not_eq_true, true_and, and_true, true_or, or_true, false_or, or_false, List.append_nil, List.nil_append, List.cons_append, Option.map_some, Option.map_none, Option.some.injEq, decide_true, decide_false, if_true, if_false, Bool.false_eq_true, gt_iff_lt, ge_iff_le, Nat.zero_add, Nat.add_zero, Nat.zero_mul, Nat.mul_zero, Nat.mul_one, Nat.one_mul, implies_true, Nat.reduceAdd, Nat.reduceSub, Nat.reduceMul, Nat.reduceLT, Nat.reduceMod, Nat.reduceDiv, Nat.reduceEqDiff, Nat.reduceBEq, Nat.reduceLeDiff, ↓reduceIte, reduceCtorEq, Int.reduceAdd, Int.reduceSub, Int.reduceLT, Int.reduceLE, Int.reduceBEq, Int.reduceEq, Int.reduceToNat, h5, h6, h7, hRf]
theorem free_ok {h : Heap} {R W : Set'} {bp : Nat} {L : PL} {S : PS} (hp : PoolAt h bp L S) (hR : R bp) (hRf : R L.fb) (hRu : R L.ub) (hWf : W L.fb) (hWu : W L.ub) (i a : Nat) (hi : i < S.n) (ha : a < S.na) (ho : S.ow i = a) (h2 : 1 ≤ S.us a ∧ S.us a ≤ 65535) :
    SF Try.prog 33 [.ptr (some (bp, 0)), .ptr (some (L.fb, i * 258))] h R W fun v h' => PoolAt h' bp L ((S.setHo i 0).setUs a (S.us a - 1)) := by
  obtain ⟨d, h5, id⟩ := hp.f
  have h6 : Nat.blt (i * 258 + 1) d.size = true := blt_true (by rw [id.size]; omega)
  have hp1 := hp.set_ho h5 hi 0
  refine SF.go hm Try.func33 ir33_eq ?_
  have hro := id.ro
  simp -implicitDefEqProofs (disch := (first | omega | (simp -implicitDefEqProofs only [szs, ne_eq] <;> omega) | fail)) only [go_sem, Nat.reduceAdd, Nat.reduceSub, Nat.reduceMul, Nat.reduceLT, Nat.reduceMod, Nat.reduceDiv, Nat.reduceEqDiff, Nat.reduceBEq, Nat.reduceLeDiff, ↓reduceIte, reduceCtorEq, Int.reduceAdd, Int.reduceSub, Int.reduceLT, Int.reduceLE, Int.reduceBEq, Int.reduceEq, Int.reduceToNat, ir33, h5, h6, hWf, hro]
  generalize h.set L.fb _ = h1 at hp1 ⊢
  obtain ⟨c, g1, ic⟩ := hp1.p
  have g2 : Nat.blt 2 c.size = true := blt_true (by rw [ic.size]; omega)
  have g3 := ic.c2
  obtain ⟨f, g4, if'⟩ := hp1.f
  have g5 : Nat.blt (i * 258) f.size = true := blt_true (by rw [if'.size]; simp only [PS.setHo]; omega)
  have g6 := if'.ow i hi
  obtain ⟨u, g7, iu⟩ := hp1.u
  have g8 : Nat.blt a u.size = true := blt_true (by have := iu.size; simp only [PS.setHo] at this; omega)
  have g9 := iu.get a ha
  simp only [PS.setHo, ho] at g3 g6 g9
  have e1 : (0 : Int) ≤ a ∧ (a : Int) < S.na := by omega
  have e2 : (a : Int).toNat = a := by omega
  have e3 := IntWalk.i64_in (S.us a - 1) (by omega)
  have hro2 := iu.ro
  simp -implicitDefEqProofs only [go_sem, List.length_cons, List.length_nil, Nat.one_mod, Nat.zero_div, List.getElem?_cons_zero, List.getElem?_cons_succ, List.getElem?_toArray, List.getElem?_nil, Bool.not_false, Bool.not_true, beq_self_eq_true, Bool.not_eq_true, true_and, and_true, true_or, or_true, false_or, or_false, List.append_nil, List.nil_append, List.cons_append, Option.map_some, Option.map_none, Option.some.injEq, decide_true, decide_false, if_true, if_false, Bool.false_eq_true, gt_iff_lt, ge_iff_le, Nat.zero_add, Nat.add_zero, Nat.zero_mul, Nat.mul_zero, Nat.mul_one, Nat.one_mul, implies_true, Nat.reduceAdd, Nat.reduceSub, Nat.reduceMul, Nat.reduceLT, Nat.reduceMod, Nat.reduceDiv, Nat.reduceEqDiff, Nat.reduceBEq, Nat.reduceLeDiff, ↓reduceIte, reduceCtorEq, Int.reduceAdd, Int.reduceSub, Int.reduceLT, Int.reduceLE, Int.reduceBEq, Int.reduceEq, Int.reduceToNat, g1, g2, g3, g4, g5, g6, g7, g8, g9, e1, e2, e3, hro2]
  exact ⟨⟨fun _ => .inr hR, fun _ => .inr hRf, fun _ => .inr hRu, fun _ => .inr hWu⟩, hp1.set_us g7 ha _⟩
theorem drop_more {h : Heap} {R W : Set'} {bp : Nat} {L : PL} {S : PS} (hp : PoolAt h bp L S) (hR : R bp) (hRf : R L.fb) (hWf : W L.fb) (i : Nat) (hi : i < S.n) (h2 : 1 < S.ho i ∧ S.ho i ≤ 65535) :
    SF Try.prog 13 [.ptr (some (bp, 0)), .int .i64 i] h R W fun v h' => v = .tuple [.bool false, .int .i64 0] ∧ PoolAt h' bp L (S.setHo i (S.ho i - 1)) := by
  obtain ⟨d, h5, id⟩ := hp.f
  have h6 : Nat.blt (i * 258 + 1) d.size = true := blt_true (by rw [id.size]; omega)
  have h7 := id.ho i hi
  have e3 : decide (1 < S.ho i) = true := by simpa using h2.1
  have e4 := IntWalk.i64_in (S.ho i - 1) (by omega)
  refine SF.go hm Try.func13 ir13_eq ?_
  simp -implicitDefEqProofs only [go_sem, List.length_cons, List.length_nil, Nat.one_mod, Nat.zero_div, List.getElem?_cons_zero, List.getElem?_cons_succ, List.getElem?_toArray, List.getElem?_nil, Bool.not_false, Bool.not_true, beq_self_eq_true, Bool.not_eq_true, true_and, and_true, true_or, or_true, false_or, or_false, List.append_nil, List.nil_append, List.cons_append, Option.map_some, Option.map_none, Option.some.injEq, decide_true, decide_false, if_true, if_false, Bool.false_eq_true, gt_iff_lt, ge_iff_le, Nat.zero_add, Nat.add_zero, Nat.zero_mul, Nat.mul_zero, Nat.mul_one, Nat.one_mul, implies_true, Nat.reduceAdd, Nat.reduceSub, Nat.reduceMul, Nat.reduceLT, Nat.reduceMod, Nat.reduceDiv, Nat.reduceEqDiff, Nat.reduceBEq, Nat.reduceLeDiff, ↓reduceIte, reduceCtorEq, Int.reduceAdd, Int.reduceSub, Int.reduceLT, Int.reduceLE, Int.reduceBEq, Int.reduceEq, Int.reduceToNat, ir13]
  refine GCall.of (at_yes hp (.inr hR) (.inr hRf) i hi (by omega)) ?_
  rintro v h' ⟨rfl, rfl⟩
  have hro := id.ro
  simp -implicitDefEqProofs (disch := (first | omega | (simp -implicitDefEqProofs only [szs, ne_eq] <;> omega) | fail)) only [go_sem, Nat.reduceAdd, Nat.reduceSub, Nat.reduceMul, Nat.reduceLT, Nat.reduceMod, Nat.reduceDiv, Nat.reduceEqDiff, Nat.reduceBEq, Nat.reduceLeDiff, ↓reduceIte, reduceCtorEq, Int.reduceAdd, Int.reduceSub, Int.reduceLT, Int.reduceLE, Int.reduceBEq, Int.reduceEq, Int.reduceToNat, h5, h6, h7, e3, e4, hRf, hWf, hro]
  exact hp.set_ho h5 hi _
theorem drop_last {h : Heap} {R W : Set'} {bp : Nat} {L : PL} {S : PS} (hp : PoolAt h bp L S) (hR : R bp) (hRf : R L.fb) (hRu : R L.ub) (hWf : W L.fb) (hWu : W L.ub) (i a : Nat) (hi : i < S.n) (ha : a < S.na) (ho : S.ow i = a) (h1 : S.ho i = 1) (h2 : 1 ≤ S.us a ∧ S.us a ≤ 65535) :
    SF Try.prog 13 [.ptr (some (bp, 0)), .int .i64 i] h R W fun v h' => v = .tuple [.bool true, .int .i64 0] ∧ PoolAt h' bp L ((S.setHo i 0).setUs a (S.us a - 1)) := by
  obtain ⟨d, h5, id⟩ := hp.f
  have h6 : Nat.blt (i * 258 + 1) d.size = true := blt_true (by rw [id.size]; omega)
  have h7 := id.ho i hi
  rw [h1] at h7
  refine SF.go hm Try.func13 ir13_eq ?_
  simp -implicitDefEqProofs only [go_sem, List.length_cons, List.length_nil, Nat.one_mod, Nat.zero_div, List.getElem?_cons_zero, List.getElem?_cons_succ, List.getElem?_toArray, List.getElem?_nil, Bool.not_false, Bool.not_true, beq_self_eq_true, Bool.not_eq_true, true_and, and_true, true_or, or_true, false_or, or_false, List.append_nil, List.nil_append, List.cons_append, Option.map_some, Option.map_none, Option.some.injEq, decide_true, decide_false, if_true, if_false, Bool.false_eq_true, gt_iff_lt, ge_iff_le, Nat.zero_add, Nat.add_zero, Nat.zero_mul, Nat.mul_zero, Nat.mul_one, Nat.one_mul, implies_true, Nat.reduceAdd, Nat.reduceSub, Nat.reduceMul, Nat.reduceLT, Nat.reduceMod, Nat.reduceDiv, Nat.reduceEqDiff, Nat.reduceBEq, Nat.reduceLeDiff, ↓reduceIte, reduceCtorEq, Int.reduceAdd, Int.reduceSub, Int.reduceLT, Int.reduceLE, Int.reduceBEq, Int.reduceEq, Int.reduceToNat, ir13]
  refine GCall.of (at_yes hp (.inr hR) (.inr hRf) i hi (by omega)) ?_
  rintro v h' ⟨rfl, rfl⟩
  simp -implicitDefEqProofs only [go_sem, List.length_cons, List.length_nil, Nat.one_mod, Nat.zero_div, List.getElem?_cons_zero, List.getElem?_cons_succ, List.getElem?_toArray, List.getElem?_nil, Bool.not_false, Bool.not_true, beq_self_eq_true, Bool.not_eq_true, true_and, and_true, true_or, or_true, false_or, or_false, List.append_nil, List.nil_append, List.cons_append, Option.map_some, Option.map_none, Option.some.injEq, decide_true, decide_false, if_true, if_false, Bool.false_eq_true, gt_iff_lt, ge_iff_le, Nat.zero_add, Nat.add_zero, Nat.zero_mul, Nat.mul_zero, Nat.mul_one, Nat.one_mul, implies_true, Nat.reduceAdd, Nat.reduceSub, Nat.reduceMul, Nat.reduceLT, Nat.reduceMod, Nat.reduceDiv, Nat.reduceEqDiff, Nat.reduceBEq, Nat.reduceLeDiff, ↓reduceIte, reduceCtorEq, Int.reduceAdd, Int.reduceSub, Int.reduceLT, Int.reduceLE, Int.reduceBEq, Int.reduceEq, Int.reduceToNat, h5, h6, h7, hRf, hWf]
  refine GCall.of (free_ok hp (.inr hR) (.inr hRf) (.inr hRu) (.inr hWf) (.inr hWu) i a hi ha ho h2) ?_
  rintro v h'' hq
  simp -implicitDefEqProofs only [go_sem, List.length_cons, List.length_nil, Nat.one_mod, Nat.zero_div, List.getElem?_cons_zero, List.getElem?_cons_succ, List.getElem?_toArray, List.getElem?_nil, Bool.not_false, Bool.not_true, beq_self_eq_true, Bool.not_eq_true, true_and, and_true, true_or, or_true, false_or, or_false, List.append_nil, List.nil_append, List.cons_append, Option.map_some, Option.map_none, Option.some.injEq, decide_true, decide_false, if_true, if_false, Bool.false_eq_true, gt_iff_lt, ge_iff_le, Nat.zero_add, Nat.add_zero, Nat.zero_mul, Nat.mul_zero, Nat.mul_one, Nat.one_mul, implies_true, Nat.reduceAdd, Nat.reduceSub, Nat.reduceMul, Nat.reduceLT, Nat.reduceMod, Nat.reduceDiv, Nat.reduceEqDiff, Nat.reduceBEq, Nat.reduceLeDiff, ↓reduceIte, reduceCtorEq, Int.reduceAdd, Int.reduceSub, Int.reduceLT, Int.reduceLE, Int.reduceBEq, Int.reduceEq, Int.reduceToNat]
  exact hq
end Go.Proofs.Ytfgdpgagcnelpaa

namespace Go.Proofs.Ytfgdpgagcnelpaa
open Go Go.Vm

def sumTo (g : Nat → Int) : Nat → Int
  | 0 => 0
  | k + 1 => sumTo g k + g k
theorem sumTo_in {g : Nat → Int} {n : Nat} (hg : ∀ a, a < n → 0 ≤ g a ∧ g a ≤ 65535) : ∀ k, k ≤ n → 0 ≤ sumTo g k ∧ sumTo g k ≤ 65535 * k
  | 0, _ => by simp [sumTo]
  | k + 1, hk => by have := sumTo_in hg k (by omega); have := hg k (by omega); simp only [sumTo]; omega
theorem free_count {h : Heap} {R W : Set'} {bp : Nat} {L : PL} {S : PS} (hp : PoolAt h bp L S) (hR : R bp) (hRu : R L.ub) (hu : ∀ a, a < S.na → 0 ≤ S.us a ∧ S.us a ≤ 65535) :
    SF Try.prog 14 [.ptr (some (bp, 0))] h R W fun v h' => v = .int .i64 (S.n - sumTo S.us S.na) ∧ h' = h := by
  obtain ⟨c, h1, ic⟩ := hp.p
  have h2 : Nat.blt 0 c.size = true := blt_true (by rw [ic.size]; omega)
  have h2' : Nat.blt 2 c.size = true := blt_true (by rw [ic.size]; omega)
  have h3 := ic.c0
  have h3' := ic.c2
  obtain ⟨u, g7, iu⟩ := hp.u
  refine SF.go hm Try.func14 ir14_eq ?_
  simp -implicitDefEqProofs only [go_sem, List.length_cons, List.length_nil, Nat.one_mod, Nat.zero_div, List.getElem?_cons_zero, List.getElem?_cons_succ, List.getElem?_toArray, List.getElem?_nil, Bool.not_false, Bool.not_true, beq_self_eq_true, Bool.not_eq_true, true_and, and_true, true_or, or_true, false_or, or_false, List.append_nil, List.nil_append, List.cons_append, Option.map_some, Option.map_none, Option.some.injEq, decide_true, decide_false, if_true, if_false, Bool.false_eq_true, gt_iff_lt, ge_iff_le, Nat.zero_add, Nat.add_zero, Nat.zero_mul, Nat.mul_zero, Nat.mul_one, Nat.one_mul, implies_true, Nat.reduceAdd, Nat.reduceSub, Nat.reduceMul, Nat.reduceLT, Nat.reduceMod, Nat.reduceDiv, Nat.reduceEqDiff, Nat.reduceBEq, Nat.reduceLeDiff, ↓reduceIte, reduceCtorEq, Int.reduceAdd, Int.reduceSub, Int.reduceLT, Int.reduceLE, Int.reduceBEq, Int.reduceEq, Int.reduceToNat, ir14]
  refine GCall.of (there_ok hp (.inr hR)) ?_
  rintro v h' ⟨rfl, rfl⟩
  simp -implicitDefEqProofs only [go_sem, List.length_cons, List.length_nil, Nat.one_mod, Nat.zero_div, List.getElem?_cons_zero, List.getElem?_cons_succ, List.getElem?_toArray, List.getElem?_nil, Bool.not_false, Bool.not_true, beq_self_eq_true, Bool.not_eq_true, true_and, and_true, true_or, or_true, false_or, or_false, List.append_nil, List.nil_append, List.cons_append, Option.map_some, Option.map_none, Option.some.injEq, decide_true, decide_false, if_true, if_false, Bool.false_eq_true, gt_iff_lt, ge_iff_le, Nat.zero_add, Nat.add_zero, Nat.zero_mul, Nat.mul_zero, Nat.mul_one, Nat.one_mul, implies_true, Nat.reduceAdd, Nat.reduceSub, Nat.reduceMul, Nat.reduceLT, Nat.reduceMod, Nat.reduceDiv, Nat.reduceEqDiff, Nat.reduceBEq, Nat.reduceLeDiff, ↓reduceIte, reduceCtorEq, Int.reduceAdd, Int.reduceSub, Int.reduceLT, Int.reduceLE, Int.reduceBEq, Int.reduceEq, Int.reduceToNat, h1, h2, h2', h3, h3', hR]
  refine GLoop.inv hm (fun k f h => h = h' ∧ f.mks = [] ∧ f.tm.n = 28 ∧ f.tm.get 17 = some (.slice (some (L.ub, 0)) S.na L.ucap L.uex) ∧ f.tm.get 18 = some (.int .i64 S.na) ∧ ∃ i : Nat, i + k = S.na ∧ f.tm.get 19 = some (.int .i64 i) ∧ f.tm.get 3 = some (.int .i64 (S.n - sumTo S.us i))) S.na ?_ ?_
  · exact ⟨rfl, rfl, rfl, rfl, rfl, 0, by omega, rfl, by simp [sumTo]; rfl⟩
  · rintro k ⟨⟨n, tr⟩, mks⟩ h ⟨rfl, hmk, hn, t17, t18, i, hik, t19, t3⟩
    simp only [Tm.get_mk] at hmk hn t17 t18 t19 t3
    subst hmk hn
    have hs := sumTo_in hu i (by omega)
    have hl := hp.lo
    by_cases hlt : i < S.na
    · have e1 : decide ((i : Int) < S.na) = true := by simpa using hlt
      have e2 : (0 : Int) ≤ i ∧ (i : Int) < S.na := by omega
      have e3 : (i : Int).toNat = i := by omega
      have g8 : Nat.blt i u.size = true := blt_true (by have := iu.size; omega)
      have g9 := iu.get i hlt
      have hs' := hu i hlt
      have e4 := IntWalk.i64_in (S.n - sumTo S.us i - S.us i) (by omega)
      have e5 := IntWalk.i64_in ((i : Int) + 1) (by omega)
      simp -implicitDefEqProofs only [go_sem, List.length_cons, List.length_nil, Nat.one_mod, Nat.zero_div, List.getElem?_cons_zero, List.getElem?_cons_succ, List.getElem?_toArray, List.getElem?_nil, Bool.not_false, Bool.not_true, beq_self_eq_true, Bool.not_eq_true, true_and, and_true, true_or, or_true, false_or, or_false, List.append_nil, List.nil_append, List.cons_append, Option.map_some, Option.map_none, Option.some.injEq, decide_true, decide_false, if_true, if_false, Bool.false_eq_true, gt_iff_lt, ge_iff_le, Nat.zero_add, Nat.add_zero, Nat.zero_mul, Nat.mul_zero, Nat.mul_one, Nat.one_mul, implies_true, Nat.reduceAdd, Nat.reduceSub, Nat.reduceMul, Nat.reduceLT, Nat.reduceMod, Nat.reduceDiv, Nat.reduceEqDiff, Nat.reduceBEq, Nat.reduceLeDiff, ↓reduceIte, reduceCtorEq, Int.reduceAdd, Int.reduceSub, Int.reduceLT, Int.reduceLE, Int.reduceBEq, Int.reduceEq, Int.reduceToNat, ir14_l0, t17, t18, t19, t3, e1, e2, e3, g7, g8, g9, e4, e5, hRu]
      refine ⟨k - 1, by omega, i + 1, by omega, by simp, ?_⟩
      simp only [sumTo]
      congr 1
      omega
    · have e1 : decide ((i : Int) < S.na) = false := by simpa using hlt
      have : i = S.na := by omega
      subst this
      simp -implicitDefEqProofs only [go_sem, List.length_cons, List.length_nil, Nat.one_mod, Nat.zero_div, List.getElem?_cons_zero, List.getElem?_cons_succ, List.getElem?_toArray, List.getElem?_nil, Bool.not_false, Bool.not_true, beq_self_eq_true, Bool.not_eq_true, true_and, and_true, true_or, or_true, false_or, or_false, List.append_nil, List.nil_append, List.cons_append, Option.map_some, Option.map_none, Option.some.injEq, decide_true, decide_false, if_true, if_false, Bool.false_eq_true, gt_iff_lt, ge_iff_le, Nat.zero_add, Nat.add_zero, Nat.zero_mul, Nat.mul_zero, Nat.mul_one, Nat.one_mul, implies_true, Nat.reduceAdd, Nat.reduceSub, Nat.reduceMul, Nat.reduceLT, Nat.reduceMod, Nat.reduceDiv, Nat.reduceEqDiff, Nat.reduceBEq, Nat.reduceLeDiff, ↓reduceIte, reduceCtorEq, Int.reduceAdd, Int.reduceSub, Int.reduceLT, Int.reduceLE, Int.reduceBEq, Int.reduceEq, Int.reduceToNat, ir14_l0, t17, t18, t19, t3, e1]
end Go.Proofs.Ytfgdpgagcnelpaa
