/- The pool: where it lies, and what its small functions answer. -/
import Derived.Test.YtfgdpgagcnelpaaTy
import Derived.Test.YtfgdpgagcnelpaaIr
import Derived.Test.YtfgdpgagcnelpaaVmBB
import Derived.IntWalk
set_option maxRecDepth 100000
set_option linter.unusedVariables false
set_option linter.unusedSimpArgs false
namespace Go.Proofs.Ytfgdpgagcnelpaa
open Go Go.Vm

structure PL where
  fb : Nat
  qb : Nat
  ub : Nat
  fcap : Nat
  qcap : Nat
  ucap : Nat
  fex : Bool
  qex : Bool
  uex : Bool
structure PS where
  n : Nat
  na : Nat
  ow : Nat → Int
  ho : Nat → Int
  byt : Nat → Nat → Int
  qu : Nat → Int
  us : Nat → Int
structure IsPool (L : PL) (S : PS) (c : Blk) : Prop where
  size : c.size = 3
  c0 : c.get 0 = .slice (some (L.fb, 0)) S.n L.fcap L.fex
  c1 : c.get 1 = .slice (some (L.qb, 0)) S.na L.qcap L.qex
  c2 : c.get 2 = .slice (some (L.ub, 0)) S.na L.ucap L.uex
structure IsFrames (S : PS) (c : Blk) : Prop where
  size : c.size = S.n * 258
  ro : c.ro = false
  ow : ∀ i, i < S.n → c.get (i * 258) = .int .i64 (S.ow i)
  ho : ∀ i, i < S.n → c.get (i * 258 + 1) = .int .i64 (S.ho i)
  byt : ∀ i j, i < S.n → j < 256 → c.get (i * 258 + 2 + j) = .int .u8 (S.byt i j)
structure IsInts (n : Nat) (g : Nat → Int) (c : Blk) : Prop where
  size : n ≤ c.size
  ro : c.ro = false
  get : ∀ i, i < n → c.get i = .int .i64 (g i)
structure PoolAt (h : Heap) (bp : Nat) (L : PL) (S : PS) : Prop where
  pos : 0 < S.n
  p : ∃ c, h.get bp = some (.cells c 61) ∧ IsPool L S c
  f : ∃ c, h.get L.fb = some (.cells c 67) ∧ IsFrames S c
  q : ∃ c, h.get L.qb = some (.cells c 3) ∧ IsInts S.na S.qu c
  u : ∃ c, h.get L.ub = some (.cells c 3) ∧ IsInts S.na S.us c
  ne : L.qb ≠ L.ub
  lo : S.n ≤ 65536 ∧ S.na ≤ 65536

def PS.setHo (S : PS) (i : Nat) (k : Int) : PS := { S with ho := fun j => if j = i then k else S.ho j }
def PS.setUs (S : PS) (i : Nat) (k : Int) : PS := { S with us := fun j => if j = i then k else S.us j }
theorem PoolAt.set_ho {h : Heap} {bp : Nat} {L : PL} {S : PS} (hp : PoolAt h bp L S) {d : Blk} (hd : h.get L.fb = some (.cells d 67)) {i : Nat} (hi : i < S.n) (k : Int) :
    PoolAt (h.set L.fb (.cells (d.set (i * 258 + 1) (.int .i64 k)) 67)) bp L (S.setHo i k) := by
  obtain ⟨c, h1, ic⟩ := hp.p
  obtain ⟨d', h2, id⟩ := hp.f
  obtain ⟨q, h3, iq⟩ := hp.q
  obtain ⟨u, h4, iu⟩ := hp.u
  rw [h2] at hd; cases hd
  have e1 : bp ≠ L.fb := fun e => by rw [e, h2] at h1; cases h1
  have e2 : L.qb ≠ L.fb := fun e => by rw [e, h2] at h3; cases h3
  have e3 : L.ub ≠ L.fb := fun e => by rw [e, h2] at h4; cases h4
  refine ⟨hp.pos, ⟨c, ?_, ⟨ic.size, ic.c0, ic.c1, ic.c2⟩⟩, ⟨d.set (i * 258 + 1) (.int .i64 k), ?_, ⟨by rw [Blk.size_set]; exact id.size, by rw [Blk.ro_set]; exact id.ro, fun j hj => ?_, fun j hj => ?_, fun j k hj hk => ?_⟩⟩, ⟨q, ?_, ⟨iq.size, iq.ro, iq.get⟩⟩, ⟨u, ?_, ⟨iu.size, iu.ro, iu.get⟩⟩, hp.ne, hp.lo⟩
  · rw [Heap.set_at h2, if_neg e1]; exact h1
  · rw [Heap.set_at h2, if_pos rfl]
  · rw [Blk.get_set, if_neg (by omega)]; exact id.ow j hj
  · rw [Blk.get_set]
    by_cases e : j = i
    · subst e; simp [PS.setHo]
    · rw [if_neg (by omega)]; simp only [PS.setHo, if_neg e]; exact id.ho j hj
  · rw [Blk.get_set, if_neg (by omega)]; exact id.byt j k hj hk
  · rw [Heap.set_at h2, if_neg e2]; exact h3
  · rw [Heap.set_at h2, if_neg e3]; exact h4
theorem PoolAt.set_us {h : Heap} {bp : Nat} {L : PL} {S : PS} (hp : PoolAt h bp L S) {d : Blk} (hd : h.get L.ub = some (.cells d 3)) {i : Nat} (hi : i < S.na) (k : Int) :
    PoolAt (h.set L.ub (.cells (d.set i (.int .i64 k)) 3)) bp L (S.setUs i k) := by
  obtain ⟨c, h1, ic⟩ := hp.p
  obtain ⟨f, h2, id⟩ := hp.f
  obtain ⟨q, h3, iq⟩ := hp.q
  obtain ⟨u, h4, iu⟩ := hp.u
  rw [h4] at hd; cases hd
  have e1 : bp ≠ L.ub := fun e => by rw [e, h4] at h1; cases h1
  have e2 : L.fb ≠ L.ub := fun e => by rw [e, h4] at h2; cases h2
  refine ⟨hp.pos, ⟨c, ?_, ⟨ic.size, ic.c0, ic.c1, ic.c2⟩⟩, ⟨f, ?_, ⟨id.size, id.ro, id.ow, id.ho, id.byt⟩⟩, ⟨q, ?_, ⟨iq.size, iq.ro, iq.get⟩⟩, ⟨d.set i (.int .i64 k), ?_, ⟨by rw [Blk.size_set]; exact iu.size, by rw [Blk.ro_set]; exact iu.ro, fun j hj => ?_⟩⟩, hp.ne, hp.lo⟩
  · rw [Heap.set_at h4, if_neg e1]; exact h1
  · rw [Heap.set_at h4, if_neg e2]; exact h2
  · rw [Heap.set_at h4, if_neg hp.ne]; exact h3
  · rw [Heap.set_at h4, if_pos rfl]
  · rw [Blk.get_set]
    by_cases e : j = i
    · subst e; simp [PS.setUs]
    · rw [if_neg e]; simp only [PS.setUs, if_neg e]; exact iu.get j hj

theorem there_ok {h : Heap} {R W : Set'} {bp : Nat} {L : PL} {S : PS} (hp : PoolAt h bp L S) (hR : R bp) : SF Try.prog 30 [.ptr (some (bp, 0))] h R W fun v h' => v = .bool true ∧ h' = h := by
  obtain ⟨c, h1, ic⟩ := hp.p
  have h2 : Nat.blt 0 c.size = true := blt_true (by rw [ic.size]; omega)
  have h3 := ic.c0
  have h4 := hp.pos
  refine SF.go hm Try.func30 ir30_eq ?_
  simp -implicitDefEqProofs only [go_sem, List.length_cons, List.length_nil, Nat.one_mod, Nat.zero_div, List.getElem?_cons_zero, List.getElem?_cons_succ, List.getElem?_toArray, List.getElem?_nil, Bool.not_false, Bool.not_true, beq_self_eq_true, Bool.not_eq_true, true_and, and_true, true_or, or_true, false_or, or_false, List.append_nil, List.nil_append, List.cons_append, Option.map_some, Option.map_none, Option.some.injEq, decide_true, decide_false, if_true, if_false, Bool.false_eq_true, gt_iff_lt, ge_iff_le, Nat.zero_add, Nat.add_zero, Nat.zero_mul, Nat.mul_zero, Nat.mul_one, Nat.one_mul, implies_true, Nat.reduceAdd, Nat.reduceSub, Nat.reduceMul, Nat.reduceLT, Nat.reduceMod, Nat.reduceDiv, Nat.reduceEqDiff, Nat.reduceBEq, Nat.reduceLeDiff, ↓reduceIte, reduceCtorEq, Int.reduceAdd, Int.reduceSub, Int.reduceLT, Int.reduceLE, Int.reduceBEq, Int.reduceEq, Int.reduceToNat, ir30, h1, h2, h3, hR]
  simp; omega

theorem account_ok {h : Heap} {R W : Set'} {bp : Nat} {L : PL} {S : PS} (hp : PoolAt h bp L S) (hR : R bp) (k : Int) : SF Try.prog 31 [.ptr (some (bp, 0)), .int .i64 k] h R W fun v h' => v = .bool (decide (0 ≤ k ∧ k < S.na)) ∧ h' = h := by
  obtain ⟨c, h1, ic⟩ := hp.p
  have h2 : Nat.blt 1 c.size = true := blt_true (by rw [ic.size]; omega)
  have h3 := ic.c1
  refine SF.go hm Try.func31 ir31_eq ?_
  by_cases hk : 0 ≤ k
  · have e1 : decide (0 ≤ k) = true := by simpa using hk
    simp -implicitDefEqProofs only [go_sem, List.length_cons, List.length_nil, Nat.one_mod, Nat.zero_div, List.getElem?_cons_zero, List.getElem?_cons_succ, List.getElem?_toArray, List.getElem?_nil, Bool.not_false, Bool.not_true, beq_self_eq_true, Bool.not_eq_true, true_and, and_true, true_or, or_true, false_or, or_false, List.append_nil, List.nil_append, List.cons_append, Option.map_some, Option.map_none, Option.some.injEq, decide_true, decide_false, if_true, if_false, Bool.false_eq_true, gt_iff_lt, ge_iff_le, Nat.zero_add, Nat.add_zero, Nat.zero_mul, Nat.mul_zero, Nat.mul_one, Nat.one_mul, implies_true, Nat.reduceAdd, Nat.reduceSub, Nat.reduceMul, Nat.reduceLT, Nat.reduceMod, Nat.reduceDiv, Nat.reduceEqDiff, Nat.reduceBEq, Nat.reduceLeDiff, ↓reduceIte, reduceCtorEq, Int.reduceAdd, Int.reduceSub, Int.reduceLT, Int.reduceLE, Int.reduceBEq, Int.reduceEq, Int.reduceToNat, ir31, h1, h2, h3, hR, e1]
    simp [hk]
  · have e1 : decide (0 ≤ k) = false := by simpa using hk
    simp -implicitDefEqProofs only [go_sem, List.length_cons, List.length_nil, Nat.one_mod, Nat.zero_div, List.getElem?_cons_zero, List.getElem?_cons_succ, List.getElem?_toArray, List.getElem?_nil, Bool.not_false, Bool.not_true, beq_self_eq_true, Bool.not_eq_true, true_and, and_true, true_or, or_true, false_or, or_false, List.append_nil, List.nil_append, List.cons_append, Option.map_some, Option.map_none, Option.some.injEq, decide_true, decide_false, if_true, if_false, Bool.false_eq_true, gt_iff_lt, ge_iff_le, Nat.zero_add, Nat.add_zero, Nat.zero_mul, Nat.mul_zero, Nat.mul_one, Nat.one_mul, implies_true, Nat.reduceAdd, Nat.reduceSub, Nat.reduceMul, Nat.reduceLT, Nat.reduceMod, Nat.reduceDiv, Nat.reduceEqDiff, Nat.reduceBEq, Nat.reduceLeDiff, ↓reduceIte, reduceCtorEq, Int.reduceAdd, Int.reduceSub, Int.reduceLT, Int.reduceLE, Int.reduceBEq, Int.reduceEq, Int.reduceToNat, ir31, h1, h2, h3, hR, e1]
    simp [hk]

end Go.Proofs.Ytfgdpgagcnelpaa
