/- The document's ports: Tests. -/
import Derived.Test.YtmimialblhlklaaR2
set_option linter.unusedVariables false
set_option maxRecDepth 100000
namespace Go.Proofs.Ytmimialblhlklaa
open Go Go.Vm
variable {h : Heap} {R W I : Set'}
theorem app_nil0 {e sz bytes : Nat} {x : V} {rs : List Nat} (hx : lenOfV x = some 0) (hf : firstV h sz 0 x = some ([], rs)) : appE e sz bytes (.slice none 0 0 true) x h = some ⟨.slice none 0 0 true, h, rs, []⟩ := by
  unfold appE
  rw [hx]
  simp only []
  rw [hf]
  simp [appendIn]
theorem rtests_ok {S : Set'} {v : V} {L : List Te} (hv : TestsV h S v L) (hS : ∀ b, S b → R b) (hl : L.length ≤ 1000000000) : SF Try.prog 40 [v] h R W fun r h' => OwnS 3 h.n h' r L.length (flatT L) 79 ∧ h.n ≤ h'.n ∧ ∀ b, b < h.n → h'.get b = h.get b := by
  have hfl := flatT_len L
  obtain ⟨hx, rs, hf, hrs⟩ := first_lrs hv
  refine SF.go hm Try.func40 ir40_eq ?_
  have hrR : allB (fun b => h.n ≤ b ∨ R b) rs := allB_of fun b hb => .inr (hS b (hrs b hb))
  by_cases h0 : L.length = 0
  · obtain rfl : L = [] := List.length_eq_zero_iff.1 h0
    simp only [flatT, List.flatMap_nil, List.length_nil] at hx hf
    have hA := app_nil0 (e := 79) (bytes := 24) hx hf
    simp -implicitDefEqProofs (disch := (first | omega | fail)) only [go_sem, seval, ↓reduceIte, reduceCtorEq, ir40, appendV_of ap_22, hA, hrR]
    exact OwnS.nil 3 _ _ 79
  · obtain ⟨v', h', r, w, hap, ho, hn, hk, hw, _, _, hr⟩ := app_ownS (n0 := h.n) (h := h) (v := .slice none 0 0 true) (n := 0) (l := []) (e := 79) (bytes := 24) (OwnS.nil 3 _ _ 79) (Nat.le_refl _) hx hf (by omega) (allOne_flatT L) (by omega) (by omega) (by omega)
    rw [Nat.zero_add, List.nil_append] at ho
    have hrR' : allB (fun b => h.n ≤ b ∨ R b) r := allB_of fun b hb => (hr b hb).elim (fun h => .inr (hS b (hrs b h))) .inl
    have hwW : allB (fun b => h.n ≤ b ∨ W b) w := allB_of fun b hb => .inl (hw b hb)
    simp -implicitDefEqProofs (disch := (first | omega | fail)) only [go_sem, seval, ↓reduceIte, reduceCtorEq, ir40, appendV_of ap_22, hap, hrR', hwW]
    exact ⟨ho, hn, hk⟩
end Go.Proofs.Ytmimialblhlklaa
namespace Go.Proofs.Ytmimialblhlklaa
open Go Go.Vm
variable {h : Heap} {R W I : Set'} {rd : Nat} {bl : Nat → Nat} {qs : List Nat} {S : AT}
theorem PortC.ones {c : Blk} {o : Nat} {y : Option Pt} (hp : PortC h I c o y) : (c.get o).one = true ∧ (c.get (o + 1)).one = true ∧ (c.get (o + 2)).one = true ∧ (c.get (o + 3)).one = true := by
  cases y with
  | none => obtain ⟨h1, h2, h3, h4⟩ := hp; rw [h1, h2, h3, h4]; exact ⟨rfl, rfl, rfl, rfl⟩
  | some x => obtain ⟨h1, h2, h3, h4⟩ := hp; rw [h1, h4]; exact ⟨rfl, LRs.one h2, h3.one, rfl⟩
theorem PortC.move {c : Blk} {o : Nat} {y : Option Pt} (hp : PortC h I c o y) : PortC h I (Blk.of [c.get o, c.get (o + 1), c.get (o + 2), c.get (o + 3)]) 0 y := by
  have e : ∀ a b d e : V, (Blk.of [a, b, d, e]).get 0 = a ∧ (Blk.of [a, b, d, e]).get (0 + 1) = b ∧ (Blk.of [a, b, d, e]).get (0 + 2) = d ∧ (Blk.of [a, b, d, e]).get (0 + 3) = e := fun a b d e => ⟨rfl, rfl, rfl, rfl⟩
  obtain ⟨e0, e1, e2, e3⟩ := e (c.get o) (c.get (o + 1)) (c.get (o + 2)) (c.get (o + 3))
  cases y with
  | none => exact ⟨e0.trans hp.1, e1.trans hp.2.1, e2.trans hp.2.2.1, e3.trans hp.2.2.2⟩
  | some x =>
    obtain ⟨h1, h2, h3, h5⟩ := hp
    exact ⟨e0.trans h1, by rw [e1]; exact h2, by rw [e2]; exact h3, e3.trans h5⟩
theorem RPorts.old {h' : Heap} (hr : RPorts h I rd bl qs S) (hk : ∀ b, b < h.n → h'.get b = h.get b) : RPorts h' I rd bl qs S := hr.same fun k h1 => hk k (by
  rcases h1 with h1 | ⟨a, ha, rfl⟩
  · obtain ⟨c, e, h2, _⟩ := hr.imm k h1
    exact Heap.lt_of_get h2
  · obtain ⟨c, h2, _⟩ := hr.b a _ (List.getElem?_eq_getElem ha)
    exact Heap.lt_of_get h2)
end Go.Proofs.Ytmimialblhlklaa
namespace Go.Proofs.Ytmimialblhlklaa
open Go Go.Vm
variable {h : Heap} {R W I : Set'}
theorem rhome_ok {S : Set'} {v : V} {l : List V} (hv : LR h S v l) (hb : Byt l) (hR : ∀ b, R b) : SF Try.prog 20 [v] h R W fun r h' => r = homeV l ∧ h' = h := by
  have hlen := hv.lenV Try.underlying36
  refine SF.go hm Try.func20 ir20_eq ?_
  cases l with
  | nil =>
    simp -implicitDefEqProofs (disch := (first | omega | fail)) only [go_sem, seval, ↓reduceIte, reduceCtorEq, ir20, ↓hlen, undefV]
    rfl
  | cons x l =>
    obtain ⟨b, o, cap, ex, c, ce, rfl, hS, hbk, hs, hg⟩ := hv.get (i := 0) (by simp)
    obtain ⟨n, rfl, n0, n1⟩ := hb x (by simp)
    have hRb := hR b
    simp only [List.getD_cons_zero, Nat.add_zero] at hg
    have hz : ¬ ((V.int .u8 n :: l).length : Int) = 0 := by simp only [List.length_cons]; omega
    have hlt : (0 : Int) < ((V.int .u8 n :: l).length : Int) := by simp only [List.length_cons]; omega
    have hs' : o < c.size := by simp only [List.length_cons] at hs; omega
    have hw : IntKind.i64.wrap n = n := IntWalk.i64_in _ (by omega)
    generalize (V.int .u8 n :: l).length = m at *
    by_cases h8 : 8 ≤ n
    · simp -implicitDefEqProofs (disch := (first | omega | fail)) only [go_sem, seval, ↓reduceIte, reduceCtorEq, ir20, ↓hlen, hlt, hRb, hbk, hg]
      rw [homeV, show homeP (V.int .u8 n :: l) = if n < 8 then some n.toNat else none from rfl, if_neg (by omega)]
    · simp -implicitDefEqProofs (disch := (first | omega | fail)) only [go_sem, seval, ↓reduceIte, reduceCtorEq, ir20, ↓hlen, hlt, hRb, hbk, hg, ↓cv5_3, c5_3, hw]
      rw [homeV, show homeP (V.int .u8 n :: l) = if n < 8 then some n.toNat else none from rfl, if_pos (by omega)]
      simp only []
      rw [show ((n.toNat : Nat) : Int) = n by omega]
end Go.Proofs.Ytmimialblhlklaa
