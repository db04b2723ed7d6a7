/- Flat memories: NewFlat. -/
import Derived.Test.YtmkdbninmimndaaC2
set_option linter.unusedVariables false
set_option maxRecDepth 100000
namespace Go.Proofs.Ytmkdbninmimndaa
open Go Go.Vm
theorem src_3 : srcOk Try.prog 3 = false := by kernel_rfl
theorem inf_5 : ∃ i, Try.prog.info? 5 = some i ∧ i.size = 1 ∧ i.bytes = 1 := ⟨_, rfl, rfl, rfl⟩
theorem zve_5 : zeroV Try.prog 5 = some (.int .u8 0) := by kernel_rfl
theorem make_app {base : Option (Nat × Nat)} {sLen sCap : Nat} {ex : Bool} {k : Nat} {h : Heap} (hk : k ≤ 100000) : appendV Try.prog 23 3 (.slice base sLen sCap ex) (.int .i64 (k : Int)) h = match Nat.ble (sLen + k) sCap with
    | true => appendIn h base sLen sCap ex 1 k (List.replicate k (.int .u8 0)) []
    | false => match firstV h 1 sLen (.slice base sLen sCap ex) with
      | some (olds, rs') => match Nat.beq olds.length (sLen * 1), Nat.ble ((sLen + k) * 1) 140737488355328, Nat.ble (sLen + k) 9223372036854775807 with
        | true, true, true => appendOut h 5 base sCap ex 1 (sLen + k) olds (List.replicate k (.int .u8 0)) ([] ++ rs')
        | _, _, _ => none
      | none => none := by
  obtain ⟨i, hi, h1, h2⟩ := inf_5
  have hs : appSrcV Try.prog 3 i (.int .u8 0) (.int .i64 (k : Int)) h = some (k, List.replicate k (.int .u8 0), []) := by
    unfold appSrcV
    rw [src_3]
    simp only [Try.underlying3, V.cellsV, h1, h2, Int.toNat_natCast]
    rw [if_pos (by omega), w_beq_t (rfl : 1 = 1), w_ble_t (show k ≤ 9223372036854775807 by omega), w_ble_t (show k * 1 ≤ 140737488355328 by omega)]
  unfold appendV
  simp only [Try.underlying23, hi, zve_5, hs, List.length_replicate, h1, h2, V.cellsV, List.length_cons, List.length_nil]
  rw [w_beq_t (show k = k * 1 by omega), w_beq_t (show 0 + 1 = 1 from rfl)]
  simp only []
  cases Nat.ble (sLen + k) sCap with
  | true => rfl
  | false =>
    simp only []
    cases firstV h 1 sLen (.slice base sLen sCap ex) with
    | none => rfl
    | some r =>
      simp only []
      cases Nat.beq r.1.length (sLen * 1) <;> cases Nat.ble ((sLen + k) * 1) 140737488355328 <;> cases Nat.ble (sLen + k) 9223372036854775807 <;> rfl
theorem allOne_zero : ∀ k, allOne (List.replicate k (V.int .u8 0)) = true
  | 0 => rfl
  | k + 1 => by rw [List.replicate_succ]; simp only [allOne, V.one, allOne_zero k]
theorem allB_of {R : Set'} : ∀ {l : List Nat}, (∀ b ∈ l, R b) → allB R l
  | [], _ => by simp [allB]
  | b :: l, h => by
    simp only [allB]
    exact ⟨h b (by simp), allB_of fun c hc => h c (by simp [hc])⟩
theorem app_zero {n0 k : Nat} {h : Heap} {v : V} {l : List V} (ho : Own n0 h v l 5) (hn : n0 ≤ h.n) (hk : k ≤ 100000) (hl : l.length ≤ 100000) : ∃ v' h' r w, appendV Try.prog 23 3 v (.int .i64 (k : Int)) h = some ⟨v', h', r, w⟩ ∧ Own n0 h' v' (l ++ List.replicate k (.int .u8 0)) 5 ∧ h.n ≤ h'.n ∧ (∀ b, b < n0 → h'.get b = h.get b) ∧ ∀ b ∈ w, n0 ≤ b := by
  have hrl : (List.replicate k (V.int .u8 0)).length = k := List.length_replicate
  have h1 := allOne_zero k
  rcases ho with ⟨rfl, rfl | ⟨b, c, rfl, hb0, hb, hr⟩⟩ | ⟨b, x, c, h0, rfl, hb0, hb, hs, hr, hg⟩
  · rw [make_app hk, List.nil_append]
    by_cases k0 : k = 0
    · subst k0
      exact ⟨_, _, _, _, rfl, .inl ⟨rfl, .inl rfl⟩, Nat.le_refl _, fun _ _ => rfl, fun b hb => by cases hb⟩
    · rw [w_ble_f (by omega)]
      simp only [firstV, List.length_nil]
      rw [w_beq_t (by omega), w_ble_t (by omega), w_ble_t (by omega)]
      refine ⟨_, _, _, _, rfl, .inr ⟨h.n, false, Blk.of (List.replicate k (.int .u8 0)), fun e => by have := congrArg List.length e; simp at this; omega, by rw [hrl, Nat.zero_add], hn, by rw [w_push_eq rfl]; rfl, rfl, rfl, gets_all _ rfl⟩, by simp, fun b hb => by rw [w_push_ne (by omega)], fun b hb => by cases hb⟩
  · have hlt := Heap.lt_of_get hb
    rw [make_app hk, List.nil_append]
    by_cases k0 : k = 0
    · subst k0
      rw [w_ble_t (by omega)]
      simp only [appendIn, hb, List.replicate_zero, List.length_nil, allOne, hr]
      rw [w_ble_t (by omega)]
      refine ⟨_, _, _, _, rfl, .inl ⟨rfl, .inr ⟨b, _, rfl, hb0, by rw [w_set_eq hlt rfl], by rw [Blk.ro_putA]; exact hr⟩⟩, by simp, fun b' hb' => by rw [w_set_ne hlt (by omega)], fun b' hb' => by simp at hb'; omega⟩
    · rw [w_ble_f (by omega)]
      simp only [firstV, hb]
      rw [w_ble_t (by omega)]
      simp only [Nat.zero_mul, w_gets_zero, List.length_nil]
      rw [w_beq_t rfl, w_ble_t (by omega), w_ble_t (by omega)]
      refine ⟨_, _, _, _, rfl, .inr ⟨h.n, false, Blk.of (List.replicate k (.int .u8 0)), fun e => by have := congrArg List.length e; simp at this; omega, by rw [hrl, Nat.zero_add], hn, by rw [w_push_eq rfl]; rfl, rfl, rfl, gets_all _ rfl⟩, by simp, fun b hb => by rw [w_push_ne (by omega)], fun b hb => by cases hb⟩
  · have hlt := Heap.lt_of_get hb
    rw [make_app hk]
    by_cases k0 : k = 0
    · subst k0
      rw [w_ble_t (by omega)]
      simp only [appendIn, hb, List.replicate_zero, List.length_nil, allOne, hr, List.append_nil, Nat.add_zero]
      rw [w_ble_t (by omega)]
      refine ⟨_, _, _, _, rfl, .inr ⟨b, x, c.putA (0 + l.length * 1) [], h0, rfl, hb0, by rw [w_set_eq hlt rfl], by rw [Blk.size_putA]; exact hs, by rw [Blk.ro_putA]; exact hr, ?_⟩, by simp, fun b' hb' => by rw [w_set_ne hlt (by omega)], fun b' hb' => by simp at hb'; omega⟩
      rw [Blk.putA_short _ _ (by simp)]
      exact hg
    · rw [w_ble_f (by omega)]
      simp only [firstV, hb]
      rw [w_ble_t (by omega)]
      simp only [Nat.mul_one, hg]
      rw [w_beq_t rfl, w_ble_t (by omega), w_ble_t (by omega)]
      have hne : l ++ List.replicate k (V.int .u8 0) ≠ [] := by simp [h0]
      have hll : (l ++ List.replicate k (V.int .u8 0)).length = l.length + k := by simp
      cases x with
      | true =>
        refine ⟨_, _, _, _, rfl, .inr ⟨h.n, false, Blk.of (l ++ List.replicate k (.int .u8 0)), hne, by rw [hll], hn, by rw [w_push_eq rfl], rfl, rfl, gets_all _ rfl⟩, by simp, fun b' hb' => by rw [w_push_ne (by omega)], fun b hb => by cases hb⟩
      | false =>
        simp only [appendOut, hb, h1, hr]
        rw [w_beq_t (by omega)]
        refine ⟨_, _, _, _, rfl, .inr ⟨h.n, false, Blk.of (l ++ List.replicate k (.int .u8 0)), hne, by rw [hll], hn, by rw [w_push_eq (by simp)], rfl, rfl, gets_all _ rfl⟩, by simp, fun b' hb' => by rw [w_push_ne (by rw [Heap.n_set]; omega), w_set_ne hlt (by omega)], fun b' hb' => by simp at hb'; omega⟩
def badF (q : Nat → Int) (b0 : Bool) : Nat → Bool
  | 0 => b0
  | k + 1 => badF q b0 k || (decide (q k < 0) || decide (7 < q k))
theorem badF_not {q : Nat → Int} {b0 : Bool} : ∀ {k : Nat}, badF q b0 k = false → b0 = false
  | 0, h => h
  | k + 1, h => by
    simp only [badF, Bool.or_eq_false_iff] at h
    exact badF_not h.1
set_option maxHeartbeats 1000000 in
theorem new_loop {h : Heap} {R W : Set'} {Q' : Ex → Fr → Heap → Prop} {t : List It} {v vr : V} {Q : List V} {q : Nat → Int} {b0 : Bool} (hv : LV h vr Q) (hlen : Q.length ≤ 9223372036854775807) (hint : ∀ i, i < Q.length → Q[i]? = some (.int .i64 (q i))) (hR : ∀ b, R b)
    (hk : ∀ tr, tr.get 0 = some v → tr.get 1 = some vr → tr.get 6 = some (.bool (badF q b0 Q.length)) → resume (Try.prog : MP) R W none Q' t (.exit 0) ⟨⟨53, tr⟩, []⟩ h)
    {tr : Tr V} (t0 : tr.get 0 = some v) (t1 : tr.get 1 = some vr) (t6 : tr.get 6 = some (.bool b0)) (t15 : tr.get 15 = some vr) (t16 : tr.get 16 = some (.int .i64 Q.length)) (t17 : tr.get 17 = some (.int .i64 0)) : GLoop (Try.prog : MP) R W none Q' ir16_l0 t ⟨⟨53, tr⟩, []⟩ h := by
  refine GLoop.inv hm (fun k f g => g = h ∧ f.mks = [] ∧ f.tm.n = 53 ∧ f.tm.get 0 = some v ∧ f.tm.get 1 = some vr ∧ f.tm.get 15 = some vr ∧ f.tm.get 16 = some (.int .i64 Q.length) ∧ ∃ i : Nat, i + k = Q.length ∧ f.tm.get 17 = some (.int .i64 i) ∧ f.tm.get 6 = some (.bool (badF q b0 i))) Q.length ?_ ?_
  · exact ⟨rfl, rfl, rfl, t0, t1, t15, t16, 0, by omega, t17, t6⟩
  clear t0 t1 t6 t15 t16 t17
  clear tr
  rintro k ⟨⟨n', tr⟩, mks⟩ g ⟨rfl, hmk, hn', t0, t1, t15, t16, i, hi, t17, t6⟩
  simp only [Tm.get_mk] at hmk hn' t0 t1 t6 t15 t16 t17
  subst hmk hn'
  by_cases hin : i < Q.length
  · obtain ⟨b, o, cap, ex, c, ce, rfl, hb, hbs, hbg⟩ := hv.get hin
    rw [List.getD_eq_getElem?_getD, hint _ hin, Option.getD_some] at hbg
    have hRb := hR b
    cases hbad : badF q b0 i with
    | true =>
      rw [hbad] at t6
      simp -implicitDefEqProofs (disch := (first | omega | fail)) only [go_sem, seval, ↓reduceIte, reduceCtorEq, ir16_l0, t0, t1, t6, t15, t16, t17, hb, hbg, hRb, undefV]
      exact ⟨k - 1, by omega, i + 1, by omega, congrArg _ (by omega), by simp only [badF, hbad]; rfl⟩
    | false =>
      rw [hbad] at t6
      by_cases q0 : q i < 0
      · simp -implicitDefEqProofs (disch := (first | omega | fail)) only [go_sem, seval, ↓reduceIte, reduceCtorEq, ir16_l0, t0, t1, t6, t15, t16, t17, hb, hbg, hRb, undefV]
        exact ⟨k - 1, by omega, i + 1, by omega, congrArg _ (by omega), by simp only [badF, hbad, decide_eq_true q0]; rfl⟩
      · by_cases q7 : 7 < q i
        · simp -implicitDefEqProofs (disch := (first | omega | fail)) only [go_sem, seval, ↓reduceIte, reduceCtorEq, ir16_l0, t0, t1, t6, t15, t16, t17, hb, hbg, hRb]
          exact ⟨k - 1, by omega, i + 1, by omega, congrArg _ (by omega), by simp only [badF, hbad, decide_eq_false q0, decide_eq_true q7]; rfl⟩
        · simp -implicitDefEqProofs (disch := (first | omega | fail)) only [go_sem, seval, ↓reduceIte, reduceCtorEq, ir16_l0, t0, t1, t6, t15, t16, t17, hb, hbg, hRb]
          exact ⟨k - 1, by omega, i + 1, by omega, congrArg _ (by omega), by simp only [badF, hbad, decide_eq_false q0, decide_eq_false q7]; rfl⟩
  · have : i = Q.length := by omega
    subst this
    simp -implicitDefEqProofs (disch := (first | omega | fail)) only [go_sem, seval, ↓reduceIte, ir16_l0, t16, t17]
    exact hk _ (by simp -implicitDefEqProofs (disch := (first | omega | fail)) only [go_sem, seval, ↓reduceIte, reduceCtorEq, t0]) (by simp -implicitDefEqProofs (disch := (first | omega | fail)) only [go_sem, seval, ↓reduceIte, t1]) (by simp -implicitDefEqProofs (disch := (first | omega | fail)) only [go_sem, seval, ↓reduceIte, t6])
set_option maxHeartbeats 1000000 in
theorem newflat_ok {h : Heap} {R W : Set'} {v vr : V} {l Q : List V} {q : Nat → Int} (hv : LV h v l) (hll : l.length ≤ 9223372036854775807) (hbyt : ∀ i, i < l.length → ∃ n : Int, l[i]? = some (.int .u8 n) ∧ 0 ≤ n ∧ n ≤ 255) (hvr : LV h vr Q) (hlen : Q.length ≤ 9223372036854775807) (hint : ∀ i, i < Q.length → Q[i]? = some (.int .i64 (q i))) (hR : ∀ b, R b) :
    SF Try.prog 16 [v, vr] h R W fun r h' => (8192 < l.length ∧ r = .tuple [.ptr none, .int .i64 3] ∧ h' = h) ∨ (l.length ≤ 8192 ∧ badF q (decide (32 < Q.length)) Q.length = true ∧ r = .tuple [.ptr none, .int .i64 2] ∧ h' = h) ∨ (l.length ≤ 8192 ∧ badF q (decide (32 < Q.length)) Q.length = false ∧ Q.length * 256 < l.length ∧ r = .tuple [.ptr none, .int .i64 3] ∧ h' = h) ∨
      (l.length ≤ 8192 ∧ badF q (decide (32 < Q.length)) Q.length = false ∧ l.length ≤ Q.length * 256 ∧ ∃ fp, r = .tuple [.ptr (some (fp, 0)), .int .i64 0] ∧ h.n ≤ fp ∧ FlatAt h' fp h.n (l ++ List.replicate (Q.length * 256 - l.length) (.int .u8 0)) Q q ∧ ∀ b, b < h.n → h'.get b = h.get b) := by
  have hl1 := hv.len23
  have hl2 := hvr.len24
  refine SF.go hm Try.func16 ir16_eq ?_
  by_cases h1 : 8192 < l.length
  · simp -implicitDefEqProofs (disch := (first | omega | fail)) only [go_sem, seval, ↓reduceIte, reduceCtorEq, ir16, ↓hl1]
    exact .inl h1
  simp -implicitDefEqProofs (disch := (first | omega | fail)) only [go_sem, seval, ↓reduceIte, reduceCtorEq, ir16, ↓hl1, ↓hl2]
  refine new_loop (v := v) (b0 := decide (32 < Q.length)) hvr (by omega) hint (fun b => .inr (hR b)) ?_ (by simp -implicitDefEqProofs (disch := (first | omega | fail)) only [go_sem, seval, ↓reduceIte]) (by simp -implicitDefEqProofs (disch := (first | omega | fail)) only [go_sem, seval, ↓reduceIte, reduceCtorEq]) ?_ (by simp -implicitDefEqProofs (disch := (first | omega | fail)) only [go_sem, seval, ↓reduceIte, reduceCtorEq]) (by simp -implicitDefEqProofs (disch := (first | omega | fail)) only [go_sem, seval, ↓reduceIte, reduceCtorEq]) (by simp -implicitDefEqProofs (disch := (first | omega | fail)) only [go_sem, seval, ↓reduceIte, reduceCtorEq])
  · intro tr t0 t1 t6
    cases hbad : badF q (decide (32 < Q.length)) Q.length with
    | true =>
      rw [hbad] at t6
      simp -implicitDefEqProofs (disch := (first | omega | fail)) only [go_sem, seval, ↓reduceIte, reduceCtorEq, t6]
      exact .inr (.inl (by omega))
    | false =>
      rw [hbad] at t6
      have h32 := of_decide_eq_false (badF_not hbad)
      by_cases h2 : Q.length * 256 < l.length
      · simp -implicitDefEqProofs (disch := (first | omega | fail)) only [go_sem, seval, ↓reduceIte, reduceCtorEq, t0, t1, t6, ↓hl1, ↓hl2]
        exact .inr (.inr (.inl ⟨by omega, h2⟩))
      · have hcast : (Q.length : Int) * 256 - (l.length : Int) = ((Q.length * 256 - l.length : Nat) : Int) := by omega
        simp -implicitDefEqProofs (disch := (first | omega | fail)) only [go_sem, seval, ↓reduceIte, reduceCtorEq, t0, t1, t6, ↓hl1, ↓hl2]
        refine GCall.of (((clone23 (R := R) (W := fun _ => False) hv (by omega) hR).kept).foot (fun _ h => .inr h) (fun _ h => h.elim)) ?_
        rintro v1 g1 ⟨⟨o1, k1⟩, vf1⟩
        have m1 := vf1.n
        obtain ⟨v2, g2, r2, w2, hap, o2, m2, k2, hw2⟩ := app_zero (k := Q.length * 256 - l.length) o1 m1 (by omega) (by omega)
        simp -implicitDefEqProofs (disch := (first | omega | fail)) only [go_sem, seval, ↓reduceIte, reduceCtorEq, t0, t1, ↓hl1, ↓hl2, hcast, hap]
        refine ⟨allB_of fun b _ => .inr (hR b), allB_of fun b hb => .inl (hw2 b hb), ?_⟩
        have k12 : ∀ b, b < h.n → g2.get b = h.get b := fun b hb => by rw [k2 b hb, k1 b hb]
        refine GCall.of (((clone24 (R := R) (W := fun _ => False) (hvr.old k12) (by omega) hR).kept).foot (fun _ h => .inr h) (fun _ h => h.elim)) ?_
        rintro v3 g3 ⟨⟨o3, k3⟩, vf3⟩
        have m3 := vf3.n
        obtain ⟨p1, l1, k1', x1, rfl⟩ := o2.shape
        obtain ⟨p2, l2, k2', x2, rfl⟩ := o3.shape
        simp -implicitDefEqProofs (disch := (first | omega | fail)) only [go_sem, seval, ↓reduceIte]
        refine .inr (.inr (.inr ⟨by omega, by omega, g3.n, rfl, by omega, ⟨⟨Blk.of [.slice p1 l1 k1' x1, .slice p2 l2 k2' x2], _, _, by simp -implicitDefEqProofs (disch := (first | omega | fail)) only [go_sem, seval], rfl, rfl, rfl, rfl, ?_, ?_⟩, by simp; omega, by omega, hint, fun i hi => ?_⟩, fun b hb => ?_⟩))
        · exact (o2.old k3).old fun b hb => by simp -implicitDefEqProofs (disch := (first | omega | fail)) only [go_sem, seval]
        · exact (o3.mono (by omega)).old fun b hb => by simp -implicitDefEqProofs (disch := (first | omega | fail)) only [go_sem, seval]
        · by_cases hil : i < l.length
          · rw [List.getElem?_append_left hil]; exact hbyt i hil
          · simp only [List.length_append, List.length_replicate] at hi
            rw [List.getElem?_append_right (by omega), List.getElem?_replicate, if_pos (by omega)]
            exact ⟨0, rfl, by omega, by omega⟩
        · simp -implicitDefEqProofs (disch := (first | omega | fail)) only [go_sem, seval]
          rw [k3 b (by omega), k12 b hb]
  · simp -implicitDefEqProofs (disch := (first | omega | fail)) only [go_sem, seval, ↓reduceIte, reduceCtorEq]
    congr 1
    exact decide_eq_decide.2 (by omega)
end Go.Proofs.Ytmkdbninmimndaa
