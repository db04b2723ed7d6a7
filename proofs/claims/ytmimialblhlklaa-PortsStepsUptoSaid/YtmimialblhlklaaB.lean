/- Ports: filters checked and cloned; bytes cloned; New. -/
import Derived.Test.YtmimialblhlklaaA
set_option linter.unusedVariables false
set_option maxRecDepth 100000
namespace Go.Vm
theorem app_noneS {e sz bytes : Nat} {x : V} {rs : List Nat} {h : Heap} {b : Nat} {c : Blk} {ce : TypeId} (hx : lenOfV x = some 0) (hf : firstV h sz 0 x = some ([], rs)) (hb : h.get b = some (.cells c ce)) (hr : c.ro = false) : appE e sz bytes (.slice (some (b, 0)) 0 0 true) x h = some ⟨.slice (some (b, 0)) 0 0 true, h.set b (.cells (c.putA 0 []) ce), rs, [b]⟩ := by
 simp only [appE, hx, hf]
 rw [w_beq_t (show ([] : List V).length = 0 * sz by simp)]
 simp only [appendIn, hb, allOne, hr, Nat.zero_mul, Nat.add_zero, List.length_nil]
 rw [w_ble_t (Nat.zero_le _)]
theorem OwnS.lrf {sz n0 : Nat} {h : Heap} {v : V} {n : Nat} {l : List V} {e : TypeId} (ho : OwnS sz n0 h v n l e) : LRs sz h (fun b => n0 ≤ b ∧ ∃ c, h.get b = some (.cells c e)) v n l := by
 obtain ⟨hl, ⟨rfl, rfl | ⟨b, c, rfl, hb0, hb, _⟩⟩ | ⟨b, x, c, h0, rfl, hb0, hb, hs, _, hg⟩⟩ := ho
 ·exact ⟨hl, .inl ⟨rfl, .inl rfl⟩⟩
 ·obtain rfl : l = [] := by simpa using hl
  exact ⟨hl, .inr ⟨b, 0, 0, true, c, e, rfl, ⟨hb0, c, hb⟩, hb, by simp, by rw [Nat.zero_mul]; rfl⟩⟩
 ·exact ⟨hl, .inr ⟨b, 0, _, x, c, e, rfl, ⟨hb0, c, hb⟩, hb, by omega, hg⟩⟩
theorem Own.lrf {n0 : Nat} {h : Heap} {v : V} {l : List V} {e : TypeId} (ho : Own n0 h v l e) : LR h (fun b => n0 ≤ b ∧ ∃ c, h.get b = some (.cells c e)) v l := by
 rcases ho with ⟨rfl, rfl | ⟨b, c, rfl, hb0, hb, _⟩⟩ | ⟨b, x, c, h0, rfl, hb0, hb, hs, _, hg⟩
 ·exact .inl ⟨rfl, .inl rfl⟩
 ·exact .inr ⟨b, 0, 0, true, c, e, rfl, ⟨hb0, c, hb⟩, hb, by simp, rfl⟩
 ·exact .inr ⟨b, 0, _, x, c, e, rfl, ⟨hb0, c, hb⟩, hb, by omega, hg⟩
end Go.Vm
namespace Go.Proofs.Ytmimialblhlklaa
open Go Go.Vm
theorem ap_22 : apT Try.prog 22 22 = some (79, 3, 24) := by kernel_rfl
theorem ap_30 : apT Try.prog 30 30 = some (3, 1, 8) := by kernel_rfl
theorem ap_36 : apT Try.prog 36 36 = some (5, 1, 1) := by kernel_rfl
theorem ap_37 : apT Try.prog 37 37 = some (41, 2, 16) := by kernel_rfl
theorem ap_23 : apT Try.prog 23 23 = some (36, 1, 24) := by kernel_rfl
theorem allOne_flatT : ∀ L : List Te, allOne (flatT L) = true
 | [] => rfl
 | t :: L => by
  have := allOne_flatT L
  simp only [flatT] at this
  simp only [flatT, List.flatMap_cons, Te.l, List.cons_append, List.nil_append, allOne, V.one, this]
theorem clone32 {h : Heap} {R W S : Set'} {v : V} {L : List Te} (hv : TestsV h S v L) (hS : ∀ b, S b → R b) (hl : L.length ≤ 1000000) : SF Try.prog 32 [v] h R W fun r h' => OwnS 3 h.n h' r L.length (flatT L) 79 ∧ ∀ b, b < h.n → h'.get b = h.get b := by
 have hfl := flatT_len L
 refine SF.go hm Try.func32 ir32_eq ?_
 by_cases h0 : L.length = 0
 ·obtain rfl : L = [] := List.length_eq_zero_iff.1 h0
  obtain ⟨hx, rs, hf, hrs⟩ := first_lrs (hv.old (h' := h.push (.cells (Blk.of []) 79)) fun b hb => w_push_ne (by omega) _)
  simp only [flatT, List.flatMap_nil, List.length_nil] at hx hf
  have hA := app_noneS (e := 79) (sz := 3) (bytes := 24) (x := v) (b := h.n) (c := Blk.of []) (ce := 79) hx hf (w_push_eq rfl _) rfl
  have hrR : allB (fun b => h.n ≤ b ∨ R b) rs := allB_of fun b hb => .inr (hS b (hrs b hb))
  have done : OwnS 3 h.n ((h.push (O.cells (Blk.of []) 79)).set h.n (O.cells ((Blk.of []).putA 0 []) 79)) (.slice (some (h.n, 0)) 0 0 true) 0 (flatT []) 79 := ⟨rfl, .inl ⟨rfl, .inr ⟨h.n, _, rfl, Nat.le_refl _, w_set_eq (by simp) rfl _, by rw [Blk.ro_putA]; rfl⟩⟩⟩
  rcases hv.2 with ⟨_, rfl | ⟨a, rfl⟩⟩ | ⟨b, o, cap, ex, c, ce, rfl, hR, hb, hs, hg⟩
  ·simp -implicitDefEqProofs (disch := (first | omega | (simp -implicitDefEqProofs only [szs, ne_eq] <;> omega) | fail)) only [go_sem, seval, ↓reduceIte, reduceCtorEq, ir32]
   exact OwnS.nil 3 _ _ 79
  ·simp -implicitDefEqProofs (disch := (first | omega | (simp -implicitDefEqProofs only [szs, ne_eq] <;> omega) | fail)) only [go_sem, seval, ↓reduceIte, reduceCtorEq, ir32, appendV_of ap_22, hA]
   exact ⟨hrR, done, fun b hb => by simp -implicitDefEqProofs (disch := (first | omega | (simp -implicitDefEqProofs only [szs, ne_eq] <;> omega) | fail)) only [go_sem, seval]⟩
  ·simp only [List.length_nil] at hA
   simp -implicitDefEqProofs (disch := (first | omega | (simp -implicitDefEqProofs only [szs, ne_eq] <;> omega) | fail)) only [go_sem, seval, ↓reduceIte, reduceCtorEq, ir32, appendV_of ap_22, hA]
   exact ⟨hrR, done, fun b hb => by simp -implicitDefEqProofs (disch := (first | omega | (simp -implicitDefEqProofs only [szs, ne_eq] <;> omega) | fail)) only [go_sem, seval]⟩
 ·obtain ⟨hx, rs, hf, hrs⟩ := first_lrs (hv.old (h' := h.push (.cells (Blk.of []) 79)) fun b hb => w_push_ne (by omega) _)
  obtain ⟨v', h', r, w, hap, ho, hn, hk, hw, _, _, hr⟩ := app_ownS (n0 := h.n) (h := h.push (.cells (Blk.of []) 79)) (v := .slice (some (h.n, 0)) 0 0 true) (n := 0) (l := []) (e := 79) (bytes := 24) ⟨rfl, .inl ⟨rfl, .inr ⟨h.n, _, rfl, Nat.le_refl _, w_push_eq rfl _, rfl⟩⟩⟩ (by simp only [Heap.n_push]; omega) hx hf hfl (allOne_flatT L) (by omega) (by omega) (by omega)
  rw [Nat.zero_add, List.nil_append] at ho
  have hrR : allB (fun b => h.n ≤ b ∨ R b) r := allB_of fun b hb => (hr b hb).elim (fun h => .inr (hS b (hrs b h))) .inl
  have hwW : allB (fun b => h.n ≤ b ∨ W b) w := allB_of fun b hb => .inl (hw b hb)
  rcases hv.2 with ⟨h1, _⟩ | ⟨b, o, cap, ex, c, ce, rfl, hR, hb, hs, hg⟩
  ·exact absurd h1 h0
  ·simp -implicitDefEqProofs (disch := (first | omega | (simp -implicitDefEqProofs only [szs, ne_eq] <;> omega) | fail)) only [go_sem, seval, ↓reduceIte, reduceCtorEq, ir32, appendV_of ap_22, hap]
   exact ⟨hrR, hwW, ho, fun b hb => by rw [hk b hb, w_push_ne (by omega)]⟩
theorem clone60 {h : Heap} {R W S : Set'} {v : V} {l : List V} (hv : LR h S v l) (hR : ∀ b, R b) (hl : l.length ≤ 1000000) (h1 : allOne l = true) : SF Try.prog 60 [v] h R W fun r h' => Own h.n h' r l 3 ∧ ∀ b, b < h.n → h'.get b = h.get b := by
 refine SF.go hm Try.func60 ir60_eq ?_
 obtain ⟨hx, rs, hf, hrs⟩ := first_lr (hv.old (h' := h.push (.cells (Blk.of []) 3)) fun b hb => w_push_ne (by omega) _)
 obtain ⟨v', h', r, w, hap, ho, hn, hk, hw, _⟩ := app_own (n0 := h.n) (h := h.push (.cells (Blk.of []) 3)) (v := .slice (some (h.n, 0)) 0 0 true) (l := []) (e := 3) (bytes := 8) (.inl ⟨rfl, .inr ⟨h.n, _, rfl, Nat.le_refl _, w_push_eq rfl _, rfl⟩⟩) (by simp only [Heap.n_push]; omega) hx hf h1 (by simp only [List.length_nil]; omega) (by simp only [List.length_nil]; omega)
 rw [List.nil_append] at ho
 have hrR : allB (fun b => h.n ≤ b ∨ R b) r := allB_of fun b hb => .inr (hR b)
 have hwW : allB (fun b => h.n ≤ b ∨ W b) w := allB_of fun b hb => .inl (hw b hb)
 rcases hv with ⟨rfl, rfl | ⟨a, rfl⟩⟩ | ⟨b, o, cap, ex, c, ce, rfl, hR, hb, hs, hg⟩
 ·simp -implicitDefEqProofs (disch := (first | omega | fail)) only [go_sem, seval, ↓reduceIte, reduceCtorEq, ir60]
  exact .inl ⟨rfl, .inl rfl⟩
 ·simp -implicitDefEqProofs (disch := (first | omega | fail)) only [go_sem, seval, ↓reduceIte, reduceCtorEq, ir60, appendV_of ap_30, hap]
  exact ⟨hrR, hwW, ho, fun b hb => by rw [hk b hb, w_push_ne (by omega)]⟩
 ·simp -implicitDefEqProofs (disch := (first | omega | fail)) only [go_sem, seval, ↓reduceIte, reduceCtorEq, ir60, appendV_of ap_30, hap]
  exact ⟨hrR, hwW, ho, fun b hb => by rw [hk b hb, w_push_ne (by omega)]⟩
theorem clone63 {h : Heap} {R W S : Set'} {v : V} {l : List V} (hv : LR h S v l) (hR : ∀ b, R b) (hl : l.length ≤ 1000000) (h1 : allOne l = true) : SF Try.prog 63 [v] h R W fun r h' => Own h.n h' r l 5 ∧ ∀ b, b < h.n → h'.get b = h.get b := by
 refine SF.go hm Try.func63 ir63_eq ?_
 obtain ⟨hx, rs, hf, hrs⟩ := first_lr (hv.old (h' := h.push (.cells (Blk.of []) 5)) fun b hb => w_push_ne (by omega) _)
 obtain ⟨v', h', r, w, hap, ho, hn, hk, hw, _⟩ := app_own (n0 := h.n) (h := h.push (.cells (Blk.of []) 5)) (v := .slice (some (h.n, 0)) 0 0 true) (l := []) (e := 5) (bytes := 1) (.inl ⟨rfl, .inr ⟨h.n, _, rfl, Nat.le_refl _, w_push_eq rfl _, rfl⟩⟩) (by simp only [Heap.n_push]; omega) hx hf h1 (by simp only [List.length_nil]; omega) (by simp only [List.length_nil]; omega)
 rw [List.nil_append] at ho
 have hrR : allB (fun b => h.n ≤ b ∨ R b) r := allB_of fun b hb => .inr (hR b)
 have hwW : allB (fun b => h.n ≤ b ∨ W b) w := allB_of fun b hb => .inl (hw b hb)
 rcases hv with ⟨rfl, rfl | ⟨a, rfl⟩⟩ | ⟨b, o, cap, ex, c, ce, rfl, hR, hb, hs, hg⟩
 ·simp -implicitDefEqProofs (disch := (first | omega | fail)) only [go_sem, seval, ↓reduceIte, reduceCtorEq, ir63]
  exact .inl ⟨rfl, .inl rfl⟩
 ·simp -implicitDefEqProofs (disch := (first | omega | fail)) only [go_sem, seval, ↓reduceIte, reduceCtorEq, ir63, appendV_of ap_36, hap]
  exact ⟨hrR, hwW, ho, fun b hb => by rw [hk b hb, w_push_ne (by omega)]⟩
 ·simp -implicitDefEqProofs (disch := (first | omega | fail)) only [go_sem, seval, ↓reduceIte, reduceCtorEq, ir63, appendV_of ap_36, hap]
  exact ⟨hrR, hwW, ho, fun b hb => by rw [hk b hb, w_push_ne (by omega)]⟩
theorem clone67 {h : Heap} {R W S : Set'} {v : V} {l : List V} (hv : LR h S v l) (hR : ∀ b, R b) (hl : l.length ≤ 1000000) (h1 : allOne l = true) : SF Try.prog 67 [v] h R W fun r h' => Own h.n h' r l 5 ∧ ∀ b, b < h.n → h'.get b = h.get b := by
 refine SF.go hm Try.func67 ir67_eq ?_
 obtain ⟨hx, rs, hf, hrs⟩ := first_lr (hv.old (h' := h.push (.cells (Blk.of []) 5)) fun b hb => w_push_ne (by omega) _)
 obtain ⟨v', h', r, w, hap, ho, hn, hk, hw, _⟩ := app_own (n0 := h.n) (h := h.push (.cells (Blk.of []) 5)) (v := .slice (some (h.n, 0)) 0 0 true) (l := []) (e := 5) (bytes := 1) (.inl ⟨rfl, .inr ⟨h.n, _, rfl, Nat.le_refl _, w_push_eq rfl _, rfl⟩⟩) (by simp only [Heap.n_push]; omega) hx hf h1 (by simp only [List.length_nil]; omega) (by simp only [List.length_nil]; omega)
 rw [List.nil_append] at ho
 have hrR : allB (fun b => h.n ≤ b ∨ R b) r := allB_of fun b hb => .inr (hR b)
 have hwW : allB (fun b => h.n ≤ b ∨ W b) w := allB_of fun b hb => .inl (hw b hb)
 rcases hv with ⟨rfl, rfl | ⟨a, rfl⟩⟩ | ⟨b, o, cap, ex, c, ce, rfl, hR, hb, hs, hg⟩
 ·simp -implicitDefEqProofs (disch := (first | omega | fail)) only [go_sem, seval, ↓reduceIte, reduceCtorEq, ir67]
  exact .inl ⟨rfl, .inl rfl⟩
 ·simp -implicitDefEqProofs (disch := (first | omega | fail)) only [go_sem, seval, ↓reduceIte, reduceCtorEq, ir67, appendV_of ap_36, hap]
  exact ⟨hrR, hwW, ho, fun b hb => by rw [hk b hb, w_push_ne (by omega)]⟩
 ·simp -implicitDefEqProofs (disch := (first | omega | fail)) only [go_sem, seval, ↓reduceIte, reduceCtorEq, ir67, appendV_of ap_36, hap]
  exact ⟨hrR, hwW, ho, fun b hb => by rw [hk b hb, w_push_ne (by omega)]⟩
def okTe (t : Te) : Prop := 0 ≤ t.at' ∧ t.at' < 64 ∧ 0 ≤ t.mask ∧ t.mask < 256 ∧ 0 ≤ t.val ∧ t.val < 256
instance (t : Te) : Decidable (okTe t) := by unfold okTe; infer_instance
def okF (L : List Te) : Prop := L.length ≤ 8 ∧ ∀ t ∈ L, okTe t
instance (L : List Te) : Decidable (okF L) := by unfold okF; infer_instance
theorem shr8 (a : Int) : intShift .shr .i64 a 8 = some (.int .i64 (a / 256)) := by
 simp only [intShift, IntKind.bits]
 rw [if_neg (by omega)]
 show some (V.int .i64 (a.fdiv 256)) = _
 rw [Int.fdiv_eq_ediv_of_nonneg _ (by omega)]
theorem take_ok {L : List Te} {i : Nat} {t : Te} (h : ∀ x ∈ L.take i, okTe x) (hi : L[i]? = some t) (ht : okTe t) : ∀ x ∈ L.take (i + 1), okTe x := fun x hx => by
 rw [List.take_add_one, hi] at hx
 rcases List.mem_append.1 hx with h1 | h1
 ·exact h x h1
 ·simp at h1; rw [h1]; exact ht
set_option maxHeartbeats 2000000 in
theorem check_ok {h : Heap} {R W S : Set'} {v : V} {L : List Te} (hv : TestsV h S v L) (hR : ∀ b, R b) : SF Try.prog 31 [v] h R W fun r h' => r = .int .i64 (if okF L then 0 else 2) ∧ h.n ≤ h'.n ∧ ∀ b, b < h.n → h'.get b = h.get b := by
 have hlen := LRs.lenV Try.underlying22 hv
 refine SF.go hm Try.func31 ir31_eq ?_
 by_cases h8 : 8 < L.length
 ·simp -implicitDefEqProofs (disch := (first | omega | (simp -implicitDefEqProofs only [szs, ne_eq] <;> omega) | fail)) only [go_sem, seval, ↓reduceIte, reduceCtorEq, ir31, ↓hlen]
  rw [if_neg (fun h => by have := h.1; omega)]
 simp -implicitDefEqProofs (disch := (first | omega | (simp -implicitDefEqProofs only [szs, ne_eq] <;> omega) | fail)) only [go_sem, seval, ↓reduceIte, reduceCtorEq, ir31, ↓hlen]
 refine GLoop.inv hm (fun k f g => f.mks = [] ∧ f.tm.n = 35 ∧ f.tm.get 8 = some v ∧ f.tm.get 9 = some (.int .i64 (L.length : Int)) ∧ h.n ≤ g.n ∧ (∀ b, b < h.n → g.get b = h.get b) ∧ ∃ i : Nat, i + k = L.length ∧ f.tm.get 10 = some (.int .i64 (i : Int)) ∧ ∀ x ∈ L.take i, okTe x) L.length ?_ ?_
 ·exact ⟨rfl, rfl, by simp -implicitDefEqProofs (disch := (first | omega | (simp -implicitDefEqProofs only [szs, ne_eq] <;> omega) | fail)) only [go_sem, seval, ↓reduceIte, reduceCtorEq], by simp -implicitDefEqProofs (disch := (first | omega | (simp -implicitDefEqProofs only [szs, ne_eq] <;> omega) | fail)) only [go_sem, seval, ↓reduceIte, reduceCtorEq], Nat.le_refl _, fun _ _ => rfl, 0, by omega, by simp -implicitDefEqProofs (disch := (first | omega | (simp -implicitDefEqProofs only [szs, ne_eq] <;> omega) | fail)) only [go_sem, Nat.reduceSub, Nat.reduceMod, Nat.reduceDiv, ↓reduceIte, reduceCtorEq]; rfl, fun x hx => by simp at hx⟩
 rintro k ⟨⟨n', tr⟩, mks⟩ g ⟨hmk, hn', t8, t9, hgn, hold, i, hik, t10, hok⟩
 simp only [Tm.get_mk] at hmk hn' t8 t9 t10
 subst hmk hn'
 by_cases hin : i < L.length
 ·have hi := List.getElem?_eq_getElem hin
  obtain ⟨b, o, cap, ex, c, ce, rfl, hS, hb, hs, c0, c1, c2⟩ := (hv.old hold).get hi
  generalize L[i] = t at hi c0 c1 c2
  have hRb := hR b
  have wn : h.n ≤ g.n ∨ W g.n := .inl hgn
  have rn : h.n ≤ g.n ∨ R g.n := .inl hgn
  have bad : ¬ okTe t → ¬ okF L := fun h1 h2 => h1 (h2.2 t (List.mem_of_getElem? hi))
  by_cases a0 : t.at' < 0
  ·simp -implicitDefEqProofs (disch := (first | omega | (simp -implicitDefEqProofs only [szs, ne_eq] <;> omega) | fail)) only [go_sem, seval, ↓reduceIte, ir31_l0, undefV, t8, t9, t10, wn, rn, hRb, hb, c0, c1, c2]
   exact ⟨by rw [if_neg (bad fun h => by have := h.1; omega)], by omega, fun b hb => by simp -implicitDefEqProofs (disch := (first | omega | (simp -implicitDefEqProofs only [szs, ne_eq] <;> omega) | fail)) only [go_sem, seval]; exact hold b hb⟩
  by_cases a1 : 64 ≤ t.at'
  ·simp -implicitDefEqProofs (disch := (first | omega | (simp -implicitDefEqProofs only [szs, ne_eq] <;> omega) | fail)) only [go_sem, seval, ↓reduceIte, ir31_l0, undefV, t8, t9, t10, wn, rn, hRb, hb, c0, c1, c2]
   exact ⟨by rw [if_neg (bad fun h => by have := h.2.1; omega)], by omega, fun b hb => by simp -implicitDefEqProofs (disch := (first | omega | (simp -implicitDefEqProofs only [szs, ne_eq] <;> omega) | fail)) only [go_sem, seval]; exact hold b hb⟩
  by_cases a2 : t.mask / 256 = 0
  ·by_cases a3 : t.val / 256 = 0
   ·simp -implicitDefEqProofs (disch := (first | omega | (simp -implicitDefEqProofs only [szs, ne_eq] <;> omega) | fail)) only [go_sem, seval, ↓reduceIte, ir31_l0, undefV, t8, t9, t10, wn, rn, hRb, hb, c0, c1, c2, ↓shr8, a2, a3]
    exact ⟨k - 1, by omega, by omega, fun b hb => by simp -implicitDefEqProofs (disch := (first | omega | (simp -implicitDefEqProofs only [szs, ne_eq] <;> omega) | fail)) only [go_sem, seval]; exact hold b hb, i + 1, by omega, by rfl, take_ok hok hi ⟨by omega, by omega, by omega, by omega, by omega, by omega⟩⟩
   ·simp -implicitDefEqProofs (disch := (first | omega | (simp -implicitDefEqProofs only [szs, ne_eq] <;> omega) | fail)) only [go_sem, seval, ↓reduceIte, ir31_l0, undefV, t8, t9, t10, wn, rn, hRb, hb, c0, c1, c2, ↓shr8, a2]
    exact ⟨by rw [if_neg (bad fun h => by have := h.2.2.2.2; omega)], by omega, fun b hb => by simp -implicitDefEqProofs (disch := (first | omega | (simp -implicitDefEqProofs only [szs, ne_eq] <;> omega) | fail)) only [go_sem, seval]; exact hold b hb⟩
  ·simp -implicitDefEqProofs (disch := (first | omega | (simp -implicitDefEqProofs only [szs, ne_eq] <;> omega) | fail)) only [go_sem, seval, ↓reduceIte, ir31_l0, undefV, t8, t9, t10, wn, rn, hRb, hb, c0, c1, c2, ↓shr8]
   exact ⟨by rw [if_neg (bad fun h => by have := h.2.2; omega)], by omega, fun b hb => by simp -implicitDefEqProofs (disch := (first | omega | (simp -implicitDefEqProofs only [szs, ne_eq] <;> omega) | fail)) only [go_sem, seval]; exact hold b hb⟩
 ·obtain rfl : i = L.length := by omega
  simp -implicitDefEqProofs (disch := (first | omega | (simp -implicitDefEqProofs only [szs, ne_eq] <;> omega) | fail)) only [go_sem, seval, ↓reduceIte, ir31_l0, t9, t10]
  rw [List.take_length] at hok
  exact ⟨by rw [if_pos ⟨by omega, hok⟩], hgn, hold⟩
end Go.Proofs.Ytmimialblhlklaa
