/- The log: bytes in memory, sectors. -/
import Derived.Test.YtakgjjbmniilhaaTy
import Derived.Test.YtakgjjbmniilhaaIrP
import Derived.Test.YtakgjjbmniilhaaP2
import Derived.Test.YtakgjjbmniilhaaDX
import Derived.Test.YtakgjjbmniilhaaV4
import Derived.IntWalk
set_option linter.unusedVariables false
set_option linter.unusedSimpArgs false
set_option linter.unusedSimpArgs false
set_option maxRecDepth 100000
set_option linter.unusedVariables false
set_option linter.unusedSimpArgs false
namespace Go.Proofs.Ytakgjjbmniilhaa
open Go Go.Vm
variable {h : Heap} {R W : Set'}
theorem Own.lrf {n0 : Nat} {h : Heap} {v : V} {l : List V} {e : TypeId} (ho : Own n0 h v l e) : LR h (fun b => n0 ≤ b ∧ ∃ c, h.get b = some (.cells c e)) v l := by
  rcases ho with ⟨rfl, rfl | ⟨b, c, rfl, hb0, hb, _⟩⟩ | ⟨b, x, c, h0, rfl, hb0, hb, hs, _, hg⟩
  · exact .inl ⟨rfl, .inl rfl⟩
  · exact .inr ⟨b, 0, 0, true, c, e, rfl, ⟨hb0, c, hb⟩, hb, by simp, rfl⟩
  · exact .inr ⟨b, 0, _, x, c, e, rfl, ⟨hb0, c, hb⟩, hb, by omega, hg⟩
theorem src_3 : srcOk Try.prog 3 = false := by kernel_rfl
theorem inf_5 : ∃ i, Try.prog.info? 5 = some i ∧ i.size = 1 ∧ i.bytes = 1 := ⟨_, rfl, rfl, rfl⟩
theorem zve_5 : zeroV Try.prog 5 = some (.int .u8 0) := by kernel_rfl
theorem make_app {base : Option (Nat × Nat)} {sLen sCap : Nat} {ex : Bool} {k : Nat} {h : Heap} (hk : k ≤ 100000) : appendV Try.prog 22 3 (.slice base sLen sCap ex) (.int .i64 (k : Int)) h = match Nat.ble (sLen + k) sCap with
    | true => appendIn h base sLen sCap ex 1 k (List.replicate k (.int .u8 0)) []
    | false => match firstV h 1 sLen (.slice base sLen sCap ex) with
      | some (olds, rs') => match Nat.beq olds.length (sLen * 1), Nat.ble ((sLen + k) * 1) 140737488355328, Nat.ble (sLen + k) 9223372036854775807 with
        | true, true, true => appendOut h 5 base sCap ex 1 (sLen + k) olds (List.replicate k (.int .u8 0)) ([] ++ rs')
        | _, _, _ => none
      | none => none := by
  obtain ⟨i, hi, h1, h2⟩ := inf_5
  have hs : appSrcV Try.prog 3 i (.int .u8 0) (.int .i64 (k : Int)) h = some (k, List.replicate k (.int .u8 0), []) := by
    unfold appSrcV
    rw [src_3]
    simp only [Try.underlying3, V.cellsV, h1, h2, Int.toNat_natCast]
    rw [if_pos (by omega), w_beq_t (rfl : 1 = 1), w_ble_t (show k ≤ 9223372036854775807 by omega), w_ble_t (show k * 1 ≤ 140737488355328 by omega)]
  unfold appendV
  simp only [Try.underlying22, hi, zve_5, hs, List.length_replicate, h1, h2, V.cellsV, List.length_cons, List.length_nil]
  rw [w_beq_t (show k = k * 1 by omega), w_beq_t (show 0 + 1 = 1 from rfl)]
  simp only []
  cases Nat.ble (sLen + k) sCap with
  | true => rfl
  | false =>
    simp only []
    cases firstV h 1 sLen (.slice base sLen sCap ex) with
    | none => rfl
    | some r =>
      simp only []
      cases Nat.beq r.1.length (sLen * 1) <;> cases Nat.ble ((sLen + k) * 1) 140737488355328 <;> cases Nat.ble (sLen + k) 9223372036854775807 <;> rfl
theorem allOne_zero : ∀ k, allOne (List.replicate k (V.int .u8 0)) = true
  | 0 => rfl
  | k + 1 => by rw [List.replicate_succ]; simp only [allOne, V.one, allOne_zero k]
theorem app_zero {n0 k : Nat} {h : Heap} {v : V} {l : List V} (ho : Own n0 h v l 5) (hn : n0 ≤ h.n) (hk : k ≤ 100000) (hl : l.length ≤ 100000) : ∃ v' h' r w, appendV Try.prog 22 3 v (.int .i64 (k : Int)) h = some ⟨v', h', r, w⟩ ∧ Own n0 h' v' (l ++ List.replicate k (.int .u8 0)) 5 ∧ h.n ≤ h'.n ∧ (∀ b, b < n0 → h'.get b = h.get b) ∧ ∀ b ∈ w, n0 ≤ b := by
  have hrl : (List.replicate k (V.int .u8 0)).length = k := List.length_replicate
  have h1 := allOne_zero k
  rcases ho with ⟨rfl, rfl | ⟨b, c, rfl, hb0, hb, hr⟩⟩ | ⟨b, x, c, h0, rfl, hb0, hb, hs, hr, hg⟩
  · rw [make_app hk, List.nil_append]
    by_cases k0 : k = 0
    · subst k0
      exact ⟨_, _, _, _, rfl, .inl ⟨rfl, .inl rfl⟩, Nat.le_refl _, fun _ _ => rfl, fun b hb => by cases hb⟩
    · rw [w_ble_f (by omega)]
      simp only [firstV, List.length_nil]
      rw [w_beq_t (by omega), w_ble_t (by omega), w_ble_t (by omega)]
      refine ⟨_, _, _, _, rfl, .inr ⟨h.n, false, Blk.of (List.replicate k (.int .u8 0)), fun e => by have := congrArg List.length e; simp at this; omega, by rw [hrl, Nat.zero_add], hn, by rw [w_push_eq rfl]; rfl, rfl, rfl, gets_all _ rfl⟩, by simp, fun b hb => by rw [w_push_ne (by omega)], fun b hb => by cases hb⟩
  · have hlt := Heap.lt_of_get hb
    rw [make_app hk, List.nil_append]
    by_cases k0 : k = 0
    · subst k0
      rw [w_ble_t (by omega)]
      simp only [appendIn, hb, List.replicate_zero, List.length_nil, allOne, hr]
      rw [w_ble_t (by omega)]
      refine ⟨_, _, _, _, rfl, .inl ⟨rfl, .inr ⟨b, _, rfl, hb0, by rw [w_set_eq hlt rfl], by rw [Blk.ro_putA]; exact hr⟩⟩, by simp, fun b' hb' => by rw [w_set_ne hlt (by omega)], fun b' hb' => by simp at hb'; omega⟩
    · rw [w_ble_f (by omega)]
      simp only [firstV, hb]
      rw [w_ble_t (by omega)]
      simp only [Nat.zero_mul, w_gets_zero, List.length_nil]
      rw [w_beq_t rfl, w_ble_t (by omega), w_ble_t (by omega)]
      refine ⟨_, _, _, _, rfl, .inr ⟨h.n, false, Blk.of (List.replicate k (.int .u8 0)), fun e => by have := congrArg List.length e; simp at this; omega, by rw [hrl, Nat.zero_add], hn, by rw [w_push_eq rfl]; rfl, rfl, rfl, gets_all _ rfl⟩, by simp, fun b hb => by rw [w_push_ne (by omega)], fun b hb => by cases hb⟩
  · have hlt := Heap.lt_of_get hb
    rw [make_app hk]
    by_cases k0 : k = 0
    · subst k0
      rw [w_ble_t (by omega)]
      simp only [appendIn, hb, List.replicate_zero, List.length_nil, allOne, hr, List.append_nil, Nat.add_zero]
      rw [w_ble_t (by omega)]
      refine ⟨_, _, _, _, rfl, .inr ⟨b, x, c.putA (0 + l.length * 1) [], h0, rfl, hb0, by rw [w_set_eq hlt rfl], by rw [Blk.size_putA]; exact hs, by rw [Blk.ro_putA]; exact hr, ?_⟩, by simp, fun b' hb' => by rw [w_set_ne hlt (by omega)], fun b' hb' => by simp at hb'; omega⟩
      rw [Blk.putA_short _ _ (by simp)]
      exact hg
    · rw [w_ble_f (by omega)]
      simp only [firstV, hb]
      rw [w_ble_t (by omega)]
      simp only [Nat.mul_one, hg]
      rw [w_beq_t rfl, w_ble_t (by omega), w_ble_t (by omega)]
      have hne : l ++ List.replicate k (V.int .u8 0) ≠ [] := by simp [h0]
      have hll : (l ++ List.replicate k (V.int .u8 0)).length = l.length + k := by simp
      cases x with
      | true =>
        refine ⟨_, _, _, _, rfl, .inr ⟨h.n, false, Blk.of (l ++ List.replicate k (.int .u8 0)), hne, by rw [hll], hn, by rw [w_push_eq rfl], rfl, rfl, gets_all _ rfl⟩, by simp, fun b' hb' => by rw [w_push_ne (by omega)], fun b hb => by cases hb⟩
      | false =>
        simp only [appendOut, hb, h1, hr]
        rw [w_beq_t (by omega)]
        refine ⟨_, _, _, _, rfl, .inr ⟨h.n, false, Blk.of (l ++ List.replicate k (.int .u8 0)), hne, by rw [hll], hn, by rw [w_push_eq (by simp)], rfl, rfl, gets_all _ rfl⟩, by simp, fun b' hb' => by rw [w_push_ne (by rw [Heap.n_set]; omega), w_set_ne hlt (by omega)], fun b' hb' => by simp at hb'; omega⟩
theorem clone42 {h : Heap} {R W S : Set'} {v : V} {l : List V} (hv : LR h S v l) (hR : ∀ b, R b) (hl : l.length ≤ 1000000) (h1 : allOne l = true) : SF Try.prog 42 [v] h R W fun r h' => Own h.n h' r l 5 ∧ ∀ b, b < h.n → h'.get b = h.get b := by
  refine SF.go hm Try.func42 ir42_eq ?_
  obtain ⟨hx, rs, hf, hrs⟩ := first_lr (hv.old (h' := h.push (.cells (Blk.of []) 5)) fun b hb => w_push_ne (by omega) _)
  obtain ⟨v', h', r, w, hap, ho, hn, hk, hw, _⟩ := app_own (n0 := h.n) (h := h.push (.cells (Blk.of []) 5)) (v := .slice (some (h.n, 0)) 0 0 true) (l := []) (e := 5) (bytes := 1) (.inl ⟨rfl, .inr ⟨h.n, _, rfl, Nat.le_refl _, w_push_eq rfl _, rfl⟩⟩) (by simp only [Heap.n_push]; omega) hx hf h1 (by simp only [List.length_nil]; omega) (by simp only [List.length_nil]; omega)
  rw [List.nil_append] at ho
  have hrR : allB (fun b => h.n ≤ b ∨ R b) r := allB_of fun b hb => .inr (hR b)
  have hwW : allB (fun b => h.n ≤ b ∨ W b) w := allB_of fun b hb => .inl (hw b hb)
  rcases hv with ⟨rfl, rfl | ⟨a, rfl⟩⟩ | ⟨b, o, cap, ex, c, ce, rfl, hR, hb, hs, hg⟩
  · simp -implicitDefEqProofs (disch := (first | omega | (simp -implicitDefEqProofs only [szs, ne_eq] <;> omega) | fail)) only [go_sem, seval, ↓reduceIte, reduceCtorEq, ir42]
    exact .inl ⟨rfl, .inl rfl⟩
  · simp -implicitDefEqProofs (disch := (first | omega | (simp -implicitDefEqProofs only [szs, ne_eq] <;> omega) | fail)) only [go_sem, seval, ↓reduceIte, reduceCtorEq, ir42, appendV_of ap_22, hap]
    exact ⟨hrR, hwW, ho, fun b hb => by rw [hk b hb, w_push_ne (by omega)]⟩
  · simp -implicitDefEqProofs (disch := (first | omega | (simp -implicitDefEqProofs only [szs, ne_eq] <;> omega) | fail)) only [go_sem, seval, ↓reduceIte, reduceCtorEq, ir42, appendV_of ap_22, hap]
    exact ⟨hrR, hwW, ho, fun b hb => by rw [hk b hb, w_push_ne (by omega)]⟩
theorem sector_ok {S : Set'} {v : V} {l : List V} (hv : LR h S v l) (hR : ∀ b, R b) (hl : l.length ≤ 128) (hb : Byt l) : SF Try.prog 37 [v] h R W fun r g => Own h.n g r (padB l) 5 ∧ h.n ≤ g.n ∧ ∀ b, b < h.n → g.get b = h.get b := by
  have hlen := hv.lenV Try.underlying22
  refine SF.go hm Try.func37 ir37_eq ?_
  simp -implicitDefEqProofs (disch := (first | omega | (simp -implicitDefEqProofs only [szs, ne_eq] <;> omega) | fail)) only [go_sem, seval, ↓reduceIte, reduceCtorEq, ir37, ↓hlen]
  refine GCall.of (clone42 hv (fun b => .inr (hR b)) (by omega) hb.allOne).kept ?_
  rintro r g ⟨⟨ho, hk⟩, vf⟩
  have hn := vf.n
  have e1 : (128 : Int) - (l.length : Int) = ((128 - l.length : Nat) : Int) := by omega
  obtain ⟨v', g', r', w', hap, ho', hn', hk', hw'⟩ := app_zero (k := 128 - l.length) ho hn (by omega) (by omega)
  have hr : allB (fun b => h.n ≤ b ∨ R b) r' := allB_of fun b _ => .inr (hR b)
  have hw : allB (fun b => h.n ≤ b ∨ W b) w' := allB_of fun b hb => .inl (hw' b hb)
  simp -implicitDefEqProofs (disch := (first | omega | (simp -implicitDefEqProofs only [szs, ne_eq] <;> omega) | fail)) only [go_sem, seval, ↓reduceIte, reduceCtorEq, ↓hlen, e1, hap]
  exact ⟨hr, hw, ho', by omega, fun b hb => by rw [hk' b hb, hk b hb]⟩
end Go.Proofs.Ytakgjjbmniilhaa
