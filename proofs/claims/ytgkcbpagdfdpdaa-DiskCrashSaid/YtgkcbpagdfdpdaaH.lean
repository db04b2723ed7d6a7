/- DiskCrash: what each sector was. -/
import Derived.Test.YtgkcbpagdfdpdaaG
import Derived.Test.YtgkcbpagdfdpdaaKn
import Derived.Test.YtgkcbpagdfdpdaaVmOpen
set_option maxRecDepth 100000
set_option linter.unusedVariables false
set_option linter.unusedSimpArgs false
namespace Go.Vm
theorem append_true {e bytes n O B xb : Nat} {h : Heap} {cx c : Blk} {te ce : TypeId} {v : V} {l : List V} (hx : h.get xb = some (.cells cx te)) (hs : 1 ≤ cx.size) (hv : cx.get 0 = v) (hB : h.get B = some (.cells c ce)) (hO : O + n ≤ c.size) (hl : c.gets O n = l) (hb : (n + 1) * bytes ≤ 140737488355328) (hbig : n + 1 ≤ 9223372036854775807) :
    appE e 1 bytes (.slice (some (B, O)) n n true) (.slice (some (xb, 0)) 1 1 true) h = some ⟨.slice (some (h.n, 0)) (n + 1) (n + 1) false, h.push (.cells (Blk.of (l ++ [v])) e), [xb] ++ [B], []⟩ := by
  have hn : l.length = n := by rw [← hl, Blk.length_gets]
  unfold appE
  simp only [lenOfV, firstV, hx, w_ble_t (show 0 + 1 * 1 ≤ cx.size by omega), w_gets_succ, w_gets_zero, hv, List.length_cons, List.length_nil]
  simp only [w_beq_t (show 0 + 1 = 1 * 1 from rfl), w_ble_f (show n < n + 1 by omega), hB, Nat.mul_one, w_ble_t hO, hl, w_beq_t hn, w_ble_t hb, w_ble_t hbig]
  rfl
theorem append_false {e bytes n O B xb : Nat} {h : Heap} {cx c : Blk} {te : TypeId} {v : V} {l : List V} (hx : h.get xb = some (.cells cx te)) (hs : 1 ≤ cx.size) (hv : cx.get 0 = v) (hv1 : v.one = true) (hB : h.get B = some (.cells c e)) (hro : c.ro = false) (hO : O + n = c.size) (hl : c.gets O n = l) (hb : (n + 1) * bytes ≤ 140737488355328) (hbig : n + 1 ≤ 9223372036854775807) :
    appE e 1 bytes (.slice (some (B, O)) n n false) (.slice (some (xb, 0)) 1 1 true) h = some ⟨.slice (some (h.n, 0)) (n + 1) (n + 1) false, (h.set B .dead).push (.cells (Blk.of (l ++ [v])) e), [xb] ++ [B], [B]⟩ := by
  have hn : l.length = n := by rw [← hl, Blk.length_gets]
  unfold appE
  simp only [lenOfV, firstV, hx, w_ble_t (show 0 + 1 * 1 ≤ cx.size by omega), w_gets_succ, w_gets_zero, hv, List.length_cons, List.length_nil]
  simp only [w_beq_t (show 0 + 1 = 1 * 1 from rfl), w_ble_f (show n < n + 1 by omega), hB, Nat.mul_one, w_ble_t (Nat.le_of_eq hO), hl, w_beq_t hn, w_ble_t hb, w_ble_t hbig]
  simp only [appendOut, hB, w_beq_t (rfl : e = e), Nat.mul_one, w_beq_t hO, allOne, hv1, hro]
end Go.Vm
namespace Go.Proofs.Ytgkcbpagdfdpdaa
open Go Go.Vm
attribute [-go_sem] sz_67
theorem known_ok (h : Heap) (R W : Set') : SF Try.prog 8 [] h R W fun v h' => v = .bool true ∧ h' = h := SF.closedH hm noHook_ok known_run h R W
def WH (H : Heap) : Set' := fun b => H.n ≤ b
/-- What a sector was since its last flush. -/
def hist (D : DS) (s : Nat) : List V := (D.fl s :: D.pe s).map fun l => .str (strB l)
theorem hist_len (D : DS) (s : Nat) : (hist D s).length = (D.pe s).length + 1 := by simp [hist]
theorem hist_write_same {D : DS} {s : Nat} {l : List V} : hist (D.write s l) s = hist D s ++ [.str (strB l)] := by
  simp [hist, DS.write]
theorem hist_write_ne {D : DS} {s t : Nat} {l : List V} (h : t ≠ s) : hist (D.write s l) t = hist D t := by
  simp [hist, DS.write, h]
theorem hist_flush1_same {D : DS} {s : Nat} : hist (D.flush1 s) s = [.str (strB (D.seen s))] := by
  simp [hist, DS.flush1]
theorem hist_flush1_ne {D : DS} {s t : Nat} (h : t ≠ s) : hist (D.flush1 s) t = hist D t := by
  simp [hist, DS.flush1, h]
theorem hist_last {D : DS} {s : Nat} : (hist D s)[(hist D s).length - 1]? = some (.str (strB (D.seen s))) := by
  rw [hist_len]
  unfold hist DS.seen
  by_cases h : D.pe s = []
  · simp [h]
  · have hp := List.length_pos_iff.2 h
    rw [List.getElem?_map, List.getLast?_eq_getElem?, Nat.add_sub_cancel]
    have e : (D.fl s :: D.pe s)[(D.pe s).length]? = (D.pe s)[(D.pe s).length - 1]? := by
      conv => lhs; rw [show (D.pe s).length = ((D.pe s).length - 1) + 1 by omega]
      rw [List.getElem?_cons_succ]
    rw [e, List.getElem?_eq_getElem (by omega)]; rfl
structure WasAt (h : Heap) (wb H0 N : Nat) (ws : Nat → List V) (B O : Nat → Nat) (X : Nat → Bool) : Prop where
  w : ∃ c, h.get wb = some (.cells c 32) ∧ c.size = 16 ∧ c.ro = false ∧ ∀ s, s < N → c.get s = .slice (some (B s, O s)) (ws s).length (ws s).length (X s)
  b : ∀ s, s < N → ∃ c, h.get (B s) = some (.cells c 9) ∧ O s + (ws s).length = c.size ∧ c.ro = false ∧ c.gets (O s) (ws s).length = ws s
  inj : ∀ s t, s < N → t < N → s ≠ t → B s ≠ B t
  lo : ∀ s, s < N → H0 ≤ B s
theorem WasAt.same {h h' : Heap} {wb H0 N : Nat} {ws : Nat → List V} {B O : Nat → Nat} {X : Nat → Bool} (hw : WasAt h wb H0 N ws B O X) (hk : ∀ b, (∃ c, h.get b = some (.cells c 32)) ∨ (∃ c, h.get b = some (.cells c 9)) → h'.get b = h.get b) : WasAt h' wb H0 N ws B O X := by
  obtain ⟨⟨c, w1, w2⟩, hb, hi, hl⟩ := hw
  refine ⟨⟨c, by rw [hk _ (.inl ⟨c, w1⟩)]; exact w1, w2⟩, fun s hs => ?_, hi, hl⟩
  obtain ⟨c, b1, b2⟩ := hb s hs
  exact ⟨c, by rw [hk _ (.inr ⟨c, b1⟩)]; exact b1, b2⟩
theorem WasAt.old {h h' : Heap} {wb H0 N : Nat} {ws : Nat → List V} {B O : Nat → Nat} {X : Nat → Bool} (hw : WasAt h wb H0 N ws B O X) (hk : ∀ b, b < h.n → h'.get b = h.get b) : WasAt h' wb H0 N ws B O X :=
  hw.same fun b hb => hk b (by rcases hb with ⟨c, e⟩ | ⟨c, e⟩ <;> exact Heap.lt_of_get e)
theorem WasAt.congr {h : Heap} {wb H0 N : Nat} {ws ws' : Nat → List V} {B O : Nat → Nat} {X : Nat → Bool} (hw : WasAt h wb H0 N ws B O X) (he : ∀ s, s < N → ws' s = ws s) : WasAt h wb H0 N ws' B O X := by
  obtain ⟨⟨c, w1, w2, w3, w4⟩, hb, hi, hl⟩ := hw
  exact ⟨⟨c, w1, w2, w3, fun s hs => by rw [he s hs]; exact w4 s hs⟩, fun s hs => by rw [he s hs]; exact hb s hs, hi, hl⟩
theorem WasAt.upd {h h' : Heap} {wb H0 N N' : Nat} {ws : Nat → List V} {B O : Nat → Nat} {X : Nat → Bool} (hw : WasAt h wb H0 N ws B O X) {s nb no : Nat} {x : Bool} {l : List V} {c : Blk} (hN : N' = N ∧ s < N ∨ N' = N + 1 ∧ s = N) (hs : s < 16) (hc : h.get wb = some (.cells c 32))
    (hc' : h'.get wb = some (.cells (c.set s (.slice (some (nb, no)) l.length l.length x)) 32)) (hb : ∃ cb, h'.get nb = some (.cells cb 9) ∧ no + l.length = cb.size ∧ cb.ro = false ∧ cb.gets no l.length = l)
    (hne : ∀ t, t < N → t ≠ s → nb ≠ B t) (hlo : H0 ≤ nb) (hk : ∀ t, t < N → t ≠ s → h'.get (B t) = h.get (B t)) :
    WasAt h' wb H0 N' (fun t => if t = s then l else ws t) (fun t => if t = s then nb else B t) (fun t => if t = s then no else O t) (fun t => if t = s then x else X t) := by
  obtain ⟨⟨c0, w1, w2, w3, w4⟩, hb0, hi, hl⟩ := hw
  rw [w1] at hc
  obtain rfl : c0 = c := by simpa using hc
  have hlt : ∀ t, t < N' → t ≠ s → t < N := fun t h1 h2 => by omega
  refine ⟨⟨_, hc', by rw [Blk.size_set]; exact w2, by rw [Blk.ro_set]; exact w3, fun t ht => ?_⟩, fun t ht => ?_, fun t u ht hu htu => ?_, fun t ht => ?_⟩
  · by_cases e : t = s
    · subst e; rw [w_bset_eq rfl]; simp
    · rw [w_bset_ne e, w4 t (hlt t ht e)]; simp [e]
  · by_cases e : t = s
    · subst e; simpa using hb
    · simp only [if_neg e]
      rw [hk t (hlt t ht e) e]; exact hb0 t (hlt t ht e)
  · by_cases e : t = s
    · subst e
      have e2 : u ≠ t := fun h => htu h.symm
      simp only [if_true, if_neg e2]
      exact hne u (hlt u hu e2) e2
    · by_cases e2 : u = s
      · subst e2
        simp only [if_true, if_neg e]
        exact fun h => hne t (hlt t ht e) e h.symm
      · simp only [if_neg e, if_neg e2]
        exact hi t u (hlt t ht e) (hlt u hu e2) htu
  · by_cases e : t = s
    · simp only [if_pos e]; exact hlo
    · simp only [if_neg e]; exact hl t (hlt t ht e)
/-- The disk's blocks are of other types. -/
theorem Foot.ty {h : Heap} {bd : Nat} {L : DL} {D : DS} (hd : DiskAt h bd L D) {b : Nat} {c : Blk} {t : TypeId} (hb : h.get b = some (.cells c t)) (h1 : t ≠ 54) (h2 : t ≠ 67) : ¬ Foot bd L D b := by
  obtain ⟨_, ⟨c1, d1, _⟩, ⟨f, f1, _⟩, ⟨es, ck, m1, m2, m3⟩, _⟩ := hd
  rintro (rfl | rfl | rfl | ⟨x, hx, rfl⟩)
  · rw [d1] at hb; simp at hb; exact h1 hb.2.symm
  · rw [f1] at hb; simp at hb; exact h2 hb.2.symm
  · rw [m1] at hb; simp at hb
  · rw [(m3.blk x hx).1] at hb; simp at hb; exact h2 hb.2.symm
structure CI (H h : Heap) (bd : Nat) (L : DL) (D : DS) (wb : Nat) (N : Nat) (ws : Nat → List V) (B O : Nat → Nat) (X : Nat → Bool) : Prop where
  le : H.n ≤ h.n
  old : ∀ b, b < H.n → h.get b = H.get b
  foot : ∀ b, Foot bd L D b → H.n ≤ b
  wbn : H.n ≤ wb
  disk : DiskAt h bd L D
  was : WasAt h wb H.n N ws B O X
theorem CI.keep {H h h' : Heap} {bd : Nat} {L : DL} {D : DS} {wb N : Nat} {ws : Nat → List V} {B O : Nat → Nat} {X : Nat → Bool} (z : CI H h bd L D wb N ws B O X) (hn : h.n ≤ h'.n) (hk : ∀ b, b < h.n → h'.get b = h.get b) : CI H h' bd L D wb N ws B O X :=
  ⟨Nat.le_trans z.le hn, fun b hb => by rw [hk b (by have := z.le; omega)]; exact z.old b hb, z.foot, z.wbn, z.disk.old hk, z.was.old hk⟩
/-- A step of the disk alone. -/
theorem CI.step {H h h' : Heap} {bd : Nat} {L L' : DL} {D D' : DS} {wb N : Nat} {ws : Nat → List V} {B O : Nat → Nat} {X : Nat → Bool} (z : CI H h bd L D wb N ws B O X) (vf : VF h h' (Foot bd L D)) (hd : DiskAt h' bd L' D') (hf : ∀ b, Foot bd L' D' b → Foot bd L D b ∨ h.n ≤ b) : CI H h' bd L' D' wb N ws B O X := by
  refine ⟨Nat.le_trans z.le vf.n, fun b hb => ?_, fun b hb => ?_, z.wbn, hd, z.was.same fun b hb => ?_⟩
  · rw [vf.get b (by have := z.le; omega) fun h => by have := z.foot b h; omega]; exact z.old b hb
  · rcases hf b hb with h1 | h1
    · exact z.foot b h1
    · exact Nat.le_trans z.le h1
  · rcases hb with ⟨c, e⟩ | ⟨c, e⟩
    · exact vf.get b (Heap.lt_of_get e) fun h => Foot.ty z.disk e (by decide) (by decide) h
    · exact vf.get b (Heap.lt_of_get e) fun h => Foot.ty z.disk e (by decide) (by decide) h
/-- A change of what the sectors were. -/
theorem CI.slot {H h h' : Heap} {bd : Nat} {L : DL} {D : DS} {wb N N' : Nat} {ws ws' : Nat → List V} {B O B' O' : Nat → Nat} {X X' : Nat → Bool} (z : CI H h bd L D wb N ws B O X) (hn : h.n ≤ h'.n) (hk : ∀ b, b < h.n → b = wb ∨ (∃ s, s < N ∧ b = B s) ∨ h'.get b = h.get b) (hw : WasAt h' wb H.n N' ws' B' O' X') : CI H h' bd L D wb N' ws' B' O' X' := by
  obtain ⟨c, w1, _⟩ := z.was.w
  refine ⟨Nat.le_trans z.le hn, fun b hb => ?_, z.foot, z.wbn, z.disk.same fun b hb hb2 => ?_, hw⟩
  · have h1 := z.le
    have h2 := z.wbn
    rcases hk b (by omega) with e | ⟨s, hs, e⟩ | e
    · omega
    · have := z.was.lo s hs; omega
    · rw [e]; exact z.old b hb
  · rcases hk b hb2 with e | ⟨s, hs, e⟩ | e
    · subst e; exact absurd hb (Foot.ty z.disk w1 (by decide) (by decide))
    · subst e
      obtain ⟨cb, b1, _⟩ := z.was.b s hs
      exact absurd hb (Foot.ty z.disk b1 (by decide) (by decide))
    · exact e
/-- The step's own place. -/
theorem stS (h : Heap) (kd n1 n2 : Int) (d kv : V) : ∃ h2, ((h.push (O.cells (Blk.of [V.int IntKind.i64 0, V.int IntKind.i64 0, V.int IntKind.i64 0, V.slice none 0 0 true, V.slice none 0 0 true]) 36)).set h.n
      (O.cells ((((((Blk.of [V.int IntKind.i64 0, V.int IntKind.i64 0, V.int IntKind.i64 0, V.slice none 0 0 true, V.slice none 0 0 true]).set 0 (V.int IntKind.i64 kd)).set 1 (V.int IntKind.i64 n1)).set 2 (V.int IntKind.i64 n2)).set 3 d).set 4 kv) 36)) = h2 ∧ h2.n = h.n + 1 ∧
      (∃ s, h2.get h.n = some (.cells s 36) ∧ s.size = 5 ∧ s.get 0 = .int .i64 kd ∧ s.get 1 = .int .i64 n1 ∧ s.get 2 = .int .i64 n2 ∧ s.get 3 = d ∧ s.get 4 = kv) ∧ ∀ b, b < h.n → h2.get b = h.get b := by
  refine ⟨_, rfl, by simp, ⟨((((((Blk.of [V.int IntKind.i64 0, V.int IntKind.i64 0, V.int IntKind.i64 0, V.slice none 0 0 true, V.slice none 0 0 true]).set 0 (V.int IntKind.i64 kd)).set 1 (V.int IntKind.i64 n1)).set 2 (V.int IntKind.i64 n2)).set 3 d).set 4 kv), by simp -implicitDefEqProofs (disch := (first | omega | (simp -implicitDefEqProofs only [Heap.n_push, Heap.n_set, Blk.size_set, Blk.size_puts, Blk.size_putA, w_of_size, w_rep_size, List.length_cons, List.length_nil, ne_eq] <;> omega) | fail)) only [go_sem, List.length_cons, List.length_nil, Nat.one_mod, Nat.zero_div, List.getElem?_cons_zero, List.getElem?_cons_succ, List.getElem?_toArray, List.getElem?_nil, Bool.not_false, Bool.not_true, beq_self_eq_true, Bool.not_eq_true, true_and, and_true, true_or, or_true, false_or, or_false, List.append_nil, List.nil_append, List.cons_append, Option.map_some, Option.map_none, Option.some.injEq, decide_true, decide_false, if_true, if_false, Bool.false_eq_true, gt_iff_lt, ge_iff_le, Nat.zero_add, Nat.add_zero, Nat.zero_mul, Nat.mul_zero, Nat.mul_one, Nat.one_mul, implies_true, Nat.reduceAdd, Nat.reduceSub, Nat.reduceMul, Nat.reduceLT, Nat.reduceMod, Nat.reduceDiv, Nat.reduceEqDiff, Nat.reduceBEq, Nat.reduceLeDiff, ↓reduceIte, reduceCtorEq, Int.reduceAdd, Int.reduceSub, Int.reduceLT, Int.reduceLE, Int.reduceBEq, Int.reduceEq, Int.reduceToNat, w_blt_t, w_blt_f, w_ble_t, w_ble_f, w_beq_t, w_beq_f, w_ilt_t, w_ilt_f, w_ile_t, w_ile_f, w_ieq_t, w_ieq_f, w_idx, w_ite, w_push_eq, w_push_ne, w_set_eq, w_set_ne, w_bset_eq, w_bset_ne, w_of_get, w_i64, Blk.putA_short, and_self, Nat.add_eq, Nat.reduceLeDiff, Nat.le_refl, Nat.le_add_right], rfl, ?_, ?_, ?_, ?_, ?_⟩, fun b hb => by simp -implicitDefEqProofs (disch := (first | omega | (simp -implicitDefEqProofs only [Heap.n_push, Heap.n_set, Blk.size_set, Blk.size_puts, Blk.size_putA, w_of_size, w_rep_size, List.length_cons, List.length_nil, ne_eq] <;> omega) | fail)) only [go_sem, List.length_cons, List.length_nil, Nat.one_mod, Nat.zero_div, List.getElem?_cons_zero, List.getElem?_cons_succ, List.getElem?_toArray, List.getElem?_nil, Bool.not_false, Bool.not_true, beq_self_eq_true, Bool.not_eq_true, true_and, and_true, true_or, or_true, false_or, or_false, List.append_nil, List.nil_append, List.cons_append, Option.map_some, Option.map_none, Option.some.injEq, decide_true, decide_false, if_true, if_false, Bool.false_eq_true, gt_iff_lt, ge_iff_le, Nat.zero_add, Nat.add_zero, Nat.zero_mul, Nat.mul_zero, Nat.mul_one, Nat.one_mul, implies_true, Nat.reduceAdd, Nat.reduceSub, Nat.reduceMul, Nat.reduceLT, Nat.reduceMod, Nat.reduceDiv, Nat.reduceEqDiff, Nat.reduceBEq, Nat.reduceLeDiff, ↓reduceIte, reduceCtorEq, Int.reduceAdd, Int.reduceSub, Int.reduceLT, Int.reduceLE, Int.reduceBEq, Int.reduceEq, Int.reduceToNat, w_blt_t, w_blt_f, w_ble_t, w_ble_f, w_beq_t, w_beq_f, w_ilt_t, w_ilt_f, w_ile_t, w_ile_f, w_ieq_t, w_ieq_f, w_idx, w_ite, w_push_eq, w_push_ne, w_set_eq, w_set_ne, w_bset_eq, w_bset_ne, w_of_get, w_i64, Blk.putA_short, and_self, Nat.add_eq, Nat.reduceLeDiff, Nat.le_refl, Nat.le_add_right]⟩ <;> simp -implicitDefEqProofs (disch := (first | omega | (simp -implicitDefEqProofs only [Heap.n_push, Heap.n_set, Blk.size_set, Blk.size_puts, Blk.size_putA, w_of_size, w_rep_size, List.length_cons, List.length_nil, ne_eq] <;> omega) | fail)) only [go_sem, List.length_cons, List.length_nil, Nat.one_mod, Nat.zero_div, List.getElem?_cons_zero, List.getElem?_cons_succ, List.getElem?_toArray, List.getElem?_nil, Bool.not_false, Bool.not_true, beq_self_eq_true, Bool.not_eq_true, true_and, and_true, true_or, or_true, false_or, or_false, List.append_nil, List.nil_append, List.cons_append, Option.map_some, Option.map_none, Option.some.injEq, decide_true, decide_false, if_true, if_false, Bool.false_eq_true, gt_iff_lt, ge_iff_le, Nat.zero_add, Nat.add_zero, Nat.zero_mul, Nat.mul_zero, Nat.mul_one, Nat.one_mul, implies_true, Nat.reduceAdd, Nat.reduceSub, Nat.reduceMul, Nat.reduceLT, Nat.reduceMod, Nat.reduceDiv, Nat.reduceEqDiff, Nat.reduceBEq, Nat.reduceLeDiff, ↓reduceIte, reduceCtorEq, Int.reduceAdd, Int.reduceSub, Int.reduceLT, Int.reduceLE, Int.reduceBEq, Int.reduceEq, Int.reduceToNat, w_blt_t, w_blt_f, w_ble_t, w_ble_f, w_beq_t, w_beq_f, w_ilt_t, w_ilt_f, w_ile_t, w_ile_f, w_ieq_t, w_ieq_f, w_idx, w_ite, w_push_eq, w_push_ne, w_set_eq, w_set_ne, w_bset_eq, w_bset_ne, w_of_get, w_i64, Blk.putA_short, and_self, Nat.add_eq, Nat.reduceLeDiff, Nat.le_refl, Nat.le_add_right]
theorem ap_31 : apT Try.prog 31 31 = some (9, 1, 16) := by kernel_rfl
theorem sl_31 {B O n : Nat} {x : Bool} (hn : 1 ≤ n) : sliceV Try.prog 31 (.slice (some (B, O)) n n x) (some ((n : Int) - 1)) none none = some (.slice (some (B, O + (n - 1))) 1 1 x) := by
  have hb : boundsV n n (some ((n : Int) - 1)) none none = some (n - 1, n, n) := by
    have h1 : ((n : Int) - 1).toNat = n - 1 := by omega
    have h2 : 0 ≤ (n : Int) - 1 ∧ (n : Int) - 1 ≤ n := by omega
    simp only [boundsV, h1, if_pos h2]
  have hbl : Nat.blt (n - 1) n = true := w_blt_t (by omega)
  have hbq : Nat.beq n (n - 1) = false := w_beq_f (by omega)
  have e1 : n - (n - 1) = 1 := by omega
  simp only [sliceV, Try.underlying31, sz_9, hb]
  cases x with
  | true => simp [hbq, e1]
  | false => simp [hbl, e1]
/-- What an append to a sector's slice does. -/
theorem slot_app {h : Heap} {wb H0 N : Nat} {ws : Nat → List V} {B O : Nat → Nat} {X : Nat → Bool} (hw : WasAt h wb H0 N ws B O X) {s : Nat} (hs : s < N) (u : ByteArray) (hb : (ws s).length ≤ 1000000) : ∃ h5 w5, appE 9 1 16 (.slice (some (B s, O s)) (ws s).length (ws s).length (X s)) (.slice (some (h.n, 0)) 1 1 true) (h.push (.cells (Blk.of [.str u]) 9)) = some ⟨.slice (some (h.n + 1, 0)) ((ws s).length + 1) ((ws s).length + 1) false, h5, [h.n, B s], w5⟩ ∧ (w5 = [] ∨ w5 = [B s]) ∧ h5.n = h.n + 2 ∧ (∀ b, b < h.n → b ≠ B s → h5.get b = h.get b) ∧ h5.get (h.n + 1) = some (.cells (Blk.of (ws s ++ [.str u])) 9) := by
  obtain ⟨c, b1, b2, b3, b4⟩ := hw.b s hs
  have hlt := Heap.lt_of_get b1
  cases hx : X s with
  | true =>
    refine ⟨_, _, append_true (cx := Blk.of [.str u]) (te := 9) (v := .str u) (by simp -implicitDefEqProofs (disch := (first | omega | (simp -implicitDefEqProofs only [Heap.n_push, Heap.n_set, Blk.size_set, Blk.size_puts, Blk.size_putA, w_of_size, w_rep_size, List.length_cons, List.length_nil, ne_eq] <;> omega) | fail)) only [go_sem, List.length_cons, List.length_nil, Nat.one_mod, Nat.zero_div, List.getElem?_cons_zero, List.getElem?_cons_succ, List.getElem?_toArray, List.getElem?_nil, Bool.not_false, Bool.not_true, beq_self_eq_true, Bool.not_eq_true, true_and, and_true, true_or, or_true, false_or, or_false, List.append_nil, List.nil_append, List.cons_append, Option.map_some, Option.map_none, Option.some.injEq, decide_true, decide_false, if_true, if_false, Bool.false_eq_true, gt_iff_lt, ge_iff_le, Nat.zero_add, Nat.add_zero, Nat.zero_mul, Nat.mul_zero, Nat.mul_one, Nat.one_mul, implies_true, Nat.reduceAdd, Nat.reduceSub, Nat.reduceMul, Nat.reduceLT, Nat.reduceMod, Nat.reduceDiv, Nat.reduceEqDiff, Nat.reduceBEq, Nat.reduceLeDiff, ↓reduceIte, reduceCtorEq, Int.reduceAdd, Int.reduceSub, Int.reduceLT, Int.reduceLE, Int.reduceBEq, Int.reduceEq, Int.reduceToNat, w_blt_t, w_blt_f, w_ble_t, w_ble_f, w_beq_t, w_beq_f, w_ilt_t, w_ilt_f, w_ile_t, w_ile_f, w_ieq_t, w_ieq_f, w_idx, w_ite, w_push_eq, w_push_ne, w_set_eq, w_set_ne, w_bset_eq, w_bset_ne, w_of_get, w_i64, Blk.putA_short, and_self, Nat.add_eq, Nat.reduceLeDiff, Nat.le_refl, Nat.le_add_right]) (Nat.le_refl _) rfl (c := c) (ce := 9) (by simp -implicitDefEqProofs (disch := (first | omega | (simp -implicitDefEqProofs only [Heap.n_push, Heap.n_set, Blk.size_set, Blk.size_puts, Blk.size_putA, w_of_size, w_rep_size, List.length_cons, List.length_nil, ne_eq] <;> omega) | fail)) only [go_sem, List.length_cons, List.length_nil, Nat.one_mod, Nat.zero_div, List.getElem?_cons_zero, List.getElem?_cons_succ, List.getElem?_toArray, List.getElem?_nil, Bool.not_false, Bool.not_true, beq_self_eq_true, Bool.not_eq_true, true_and, and_true, true_or, or_true, false_or, or_false, List.append_nil, List.nil_append, List.cons_append, Option.map_some, Option.map_none, Option.some.injEq, decide_true, decide_false, if_true, if_false, Bool.false_eq_true, gt_iff_lt, ge_iff_le, Nat.zero_add, Nat.add_zero, Nat.zero_mul, Nat.mul_zero, Nat.mul_one, Nat.one_mul, implies_true, Nat.reduceAdd, Nat.reduceSub, Nat.reduceMul, Nat.reduceLT, Nat.reduceMod, Nat.reduceDiv, Nat.reduceEqDiff, Nat.reduceBEq, Nat.reduceLeDiff, ↓reduceIte, reduceCtorEq, Int.reduceAdd, Int.reduceSub, Int.reduceLT, Int.reduceLE, Int.reduceBEq, Int.reduceEq, Int.reduceToNat, w_blt_t, w_blt_f, w_ble_t, w_ble_f, w_beq_t, w_beq_f, w_ilt_t, w_ilt_f, w_ile_t, w_ile_f, w_ieq_t, w_ieq_f, w_idx, w_ite, w_push_eq, w_push_ne, w_set_eq, w_set_ne, w_bset_eq, w_bset_ne, w_of_get, w_i64, Blk.putA_short, and_self, Nat.add_eq, Nat.reduceLeDiff, Nat.le_refl, Nat.le_add_right, b1]) (by omega) b4 (by omega) (by omega), .inl rfl, by simp, fun b hb hne => by simp -implicitDefEqProofs (disch := (first | omega | (simp -implicitDefEqProofs only [Heap.n_push, Heap.n_set, Blk.size_set, Blk.size_puts, Blk.size_putA, w_of_size, w_rep_size, List.length_cons, List.length_nil, ne_eq] <;> omega) | fail)) only [go_sem, List.length_cons, List.length_nil, Nat.one_mod, Nat.zero_div, List.getElem?_cons_zero, List.getElem?_cons_succ, List.getElem?_toArray, List.getElem?_nil, Bool.not_false, Bool.not_true, beq_self_eq_true, Bool.not_eq_true, true_and, and_true, true_or, or_true, false_or, or_false, List.append_nil, List.nil_append, List.cons_append, Option.map_some, Option.map_none, Option.some.injEq, decide_true, decide_false, if_true, if_false, Bool.false_eq_true, gt_iff_lt, ge_iff_le, Nat.zero_add, Nat.add_zero, Nat.zero_mul, Nat.mul_zero, Nat.mul_one, Nat.one_mul, implies_true, Nat.reduceAdd, Nat.reduceSub, Nat.reduceMul, Nat.reduceLT, Nat.reduceMod, Nat.reduceDiv, Nat.reduceEqDiff, Nat.reduceBEq, Nat.reduceLeDiff, ↓reduceIte, reduceCtorEq, Int.reduceAdd, Int.reduceSub, Int.reduceLT, Int.reduceLE, Int.reduceBEq, Int.reduceEq, Int.reduceToNat, w_blt_t, w_blt_f, w_ble_t, w_ble_f, w_beq_t, w_beq_f, w_ilt_t, w_ilt_f, w_ile_t, w_ile_f, w_ieq_t, w_ieq_f, w_idx, w_ite, w_push_eq, w_push_ne, w_set_eq, w_set_ne, w_bset_eq, w_bset_ne, w_of_get, w_i64, Blk.putA_short, and_self, Nat.add_eq, Nat.reduceLeDiff, Nat.le_refl, Nat.le_add_right], by simp -implicitDefEqProofs (disch := (first | omega | (simp -implicitDefEqProofs only [Heap.n_push, Heap.n_set, Blk.size_set, Blk.size_puts, Blk.size_putA, w_of_size, w_rep_size, List.length_cons, List.length_nil, ne_eq] <;> omega) | fail)) only [go_sem, List.length_cons, List.length_nil, Nat.one_mod, Nat.zero_div, List.getElem?_cons_zero, List.getElem?_cons_succ, List.getElem?_toArray, List.getElem?_nil, Bool.not_false, Bool.not_true, beq_self_eq_true, Bool.not_eq_true, true_and, and_true, true_or, or_true, false_or, or_false, List.append_nil, List.nil_append, List.cons_append, Option.map_some, Option.map_none, Option.some.injEq, decide_true, decide_false, if_true, if_false, Bool.false_eq_true, gt_iff_lt, ge_iff_le, Nat.zero_add, Nat.add_zero, Nat.zero_mul, Nat.mul_zero, Nat.mul_one, Nat.one_mul, implies_true, Nat.reduceAdd, Nat.reduceSub, Nat.reduceMul, Nat.reduceLT, Nat.reduceMod, Nat.reduceDiv, Nat.reduceEqDiff, Nat.reduceBEq, Nat.reduceLeDiff, ↓reduceIte, reduceCtorEq, Int.reduceAdd, Int.reduceSub, Int.reduceLT, Int.reduceLE, Int.reduceBEq, Int.reduceEq, Int.reduceToNat, w_blt_t, w_blt_f, w_ble_t, w_ble_f, w_beq_t, w_beq_f, w_ilt_t, w_ilt_f, w_ile_t, w_ile_f, w_ieq_t, w_ieq_f, w_idx, w_ite, w_push_eq, w_push_ne, w_set_eq, w_set_ne, w_bset_eq, w_bset_ne, w_of_get, w_i64, Blk.putA_short, and_self, Nat.add_eq, Nat.reduceLeDiff, Nat.le_refl, Nat.le_add_right]⟩
  | false =>
    refine ⟨_, _, append_false (cx := Blk.of [.str u]) (te := 9) (v := .str u) (by simp -implicitDefEqProofs (disch := (first | omega | (simp -implicitDefEqProofs only [Heap.n_push, Heap.n_set, Blk.size_set, Blk.size_puts, Blk.size_putA, w_of_size, w_rep_size, List.length_cons, List.length_nil, ne_eq] <;> omega) | fail)) only [go_sem, List.length_cons, List.length_nil, Nat.one_mod, Nat.zero_div, List.getElem?_cons_zero, List.getElem?_cons_succ, List.getElem?_toArray, List.getElem?_nil, Bool.not_false, Bool.not_true, beq_self_eq_true, Bool.not_eq_true, true_and, and_true, true_or, or_true, false_or, or_false, List.append_nil, List.nil_append, List.cons_append, Option.map_some, Option.map_none, Option.some.injEq, decide_true, decide_false, if_true, if_false, Bool.false_eq_true, gt_iff_lt, ge_iff_le, Nat.zero_add, Nat.add_zero, Nat.zero_mul, Nat.mul_zero, Nat.mul_one, Nat.one_mul, implies_true, Nat.reduceAdd, Nat.reduceSub, Nat.reduceMul, Nat.reduceLT, Nat.reduceMod, Nat.reduceDiv, Nat.reduceEqDiff, Nat.reduceBEq, Nat.reduceLeDiff, ↓reduceIte, reduceCtorEq, Int.reduceAdd, Int.reduceSub, Int.reduceLT, Int.reduceLE, Int.reduceBEq, Int.reduceEq, Int.reduceToNat, w_blt_t, w_blt_f, w_ble_t, w_ble_f, w_beq_t, w_beq_f, w_ilt_t, w_ilt_f, w_ile_t, w_ile_f, w_ieq_t, w_ieq_f, w_idx, w_ite, w_push_eq, w_push_ne, w_set_eq, w_set_ne, w_bset_eq, w_bset_ne, w_of_get, w_i64, Blk.putA_short, and_self, Nat.add_eq, Nat.reduceLeDiff, Nat.le_refl, Nat.le_add_right]) (Nat.le_refl _) rfl rfl (c := c) (by simp -implicitDefEqProofs (disch := (first | omega | (simp -implicitDefEqProofs only [Heap.n_push, Heap.n_set, Blk.size_set, Blk.size_puts, Blk.size_putA, w_of_size, w_rep_size, List.length_cons, List.length_nil, ne_eq] <;> omega) | fail)) only [go_sem, List.length_cons, List.length_nil, Nat.one_mod, Nat.zero_div, List.getElem?_cons_zero, List.getElem?_cons_succ, List.getElem?_toArray, List.getElem?_nil, Bool.not_false, Bool.not_true, beq_self_eq_true, Bool.not_eq_true, true_and, and_true, true_or, or_true, false_or, or_false, List.append_nil, List.nil_append, List.cons_append, Option.map_some, Option.map_none, Option.some.injEq, decide_true, decide_false, if_true, if_false, Bool.false_eq_true, gt_iff_lt, ge_iff_le, Nat.zero_add, Nat.add_zero, Nat.zero_mul, Nat.mul_zero, Nat.mul_one, Nat.one_mul, implies_true, Nat.reduceAdd, Nat.reduceSub, Nat.reduceMul, Nat.reduceLT, Nat.reduceMod, Nat.reduceDiv, Nat.reduceEqDiff, Nat.reduceBEq, Nat.reduceLeDiff, ↓reduceIte, reduceCtorEq, Int.reduceAdd, Int.reduceSub, Int.reduceLT, Int.reduceLE, Int.reduceBEq, Int.reduceEq, Int.reduceToNat, w_blt_t, w_blt_f, w_ble_t, w_ble_f, w_beq_t, w_beq_f, w_ilt_t, w_ilt_f, w_ile_t, w_ile_f, w_ieq_t, w_ieq_f, w_idx, w_ite, w_push_eq, w_push_ne, w_set_eq, w_set_ne, w_bset_eq, w_bset_ne, w_of_get, w_i64, Blk.putA_short, and_self, Nat.add_eq, Nat.reduceLeDiff, Nat.le_refl, Nat.le_add_right, b1]) b3 b2 b4 (by omega) (by omega), .inr rfl, by simp, fun b hb hne => by simp -implicitDefEqProofs (disch := (first | omega | (simp -implicitDefEqProofs only [Heap.n_push, Heap.n_set, Blk.size_set, Blk.size_puts, Blk.size_putA, w_of_size, w_rep_size, List.length_cons, List.length_nil, ne_eq] <;> omega) | fail)) only [go_sem, List.length_cons, List.length_nil, Nat.one_mod, Nat.zero_div, List.getElem?_cons_zero, List.getElem?_cons_succ, List.getElem?_toArray, List.getElem?_nil, Bool.not_false, Bool.not_true, beq_self_eq_true, Bool.not_eq_true, true_and, and_true, true_or, or_true, false_or, or_false, List.append_nil, List.nil_append, List.cons_append, Option.map_some, Option.map_none, Option.some.injEq, decide_true, decide_false, if_true, if_false, Bool.false_eq_true, gt_iff_lt, ge_iff_le, Nat.zero_add, Nat.add_zero, Nat.zero_mul, Nat.mul_zero, Nat.mul_one, Nat.one_mul, implies_true, Nat.reduceAdd, Nat.reduceSub, Nat.reduceMul, Nat.reduceLT, Nat.reduceMod, Nat.reduceDiv, Nat.reduceEqDiff, Nat.reduceBEq, Nat.reduceLeDiff, ↓reduceIte, reduceCtorEq, Int.reduceAdd, Int.reduceSub, Int.reduceLT, Int.reduceLE, Int.reduceBEq, Int.reduceEq, Int.reduceToNat, w_blt_t, w_blt_f, w_ble_t, w_ble_f, w_beq_t, w_beq_f, w_ilt_t, w_ilt_f, w_ile_t, w_ile_f, w_ieq_t, w_ieq_f, w_idx, w_ite, w_push_eq, w_push_ne, w_set_eq, w_set_ne, w_bset_eq, w_bset_ne, w_of_get, w_i64, Blk.putA_short, and_self, Nat.add_eq, Nat.reduceLeDiff, Nat.le_refl, Nat.le_add_right], by simp -implicitDefEqProofs (disch := (first | omega | (simp -implicitDefEqProofs only [Heap.n_push, Heap.n_set, Blk.size_set, Blk.size_puts, Blk.size_putA, w_of_size, w_rep_size, List.length_cons, List.length_nil, ne_eq] <;> omega) | fail)) only [go_sem, List.length_cons, List.length_nil, Nat.one_mod, Nat.zero_div, List.getElem?_cons_zero, List.getElem?_cons_succ, List.getElem?_toArray, List.getElem?_nil, Bool.not_false, Bool.not_true, beq_self_eq_true, Bool.not_eq_true, true_and, and_true, true_or, or_true, false_or, or_false, List.append_nil, List.nil_append, List.cons_append, Option.map_some, Option.map_none, Option.some.injEq, decide_true, decide_false, if_true, if_false, Bool.false_eq_true, gt_iff_lt, ge_iff_le, Nat.zero_add, Nat.add_zero, Nat.zero_mul, Nat.mul_zero, Nat.mul_one, Nat.one_mul, implies_true, Nat.reduceAdd, Nat.reduceSub, Nat.reduceMul, Nat.reduceLT, Nat.reduceMod, Nat.reduceDiv, Nat.reduceEqDiff, Nat.reduceBEq, Nat.reduceLeDiff, ↓reduceIte, reduceCtorEq, Int.reduceAdd, Int.reduceSub, Int.reduceLT, Int.reduceLE, Int.reduceBEq, Int.reduceEq, Int.reduceToNat, w_blt_t, w_blt_f, w_ble_t, w_ble_f, w_beq_t, w_beq_f, w_ilt_t, w_ilt_f, w_ile_t, w_ile_f, w_ieq_t, w_ieq_f, w_idx, w_ite, w_push_eq, w_push_ne, w_set_eq, w_set_ne, w_bset_eq, w_bset_ne, w_of_get, w_i64, Blk.putA_short, and_self, Nat.add_eq, Nat.reduceLeDiff, Nat.le_refl, Nat.le_add_right]⟩
end Go.Proofs.Ytgkcbpagdfdpdaa
