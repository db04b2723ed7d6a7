/- The document's ports: Tests. -/
import Derived.Test.YtmimialblhlklaaR2
set_option linter.unusedVariables false
set_option maxRecDepth 100000
namespace Go.Proofs.Ytmimialblhlklaa
open Go Go.Vm
variable {h : Heap} {R W I : Set'}
theorem app_nil0 {e sz bytes : Nat} {x : V} {rs : List Nat} (hx : lenOfV x = some 0) (hf : firstV h sz 0 x = some ([], rs)) : appE e sz bytes (.slice none 0 0 true) x h = some ⟨.slice none 0 0 true, h, rs, []⟩ := by
 unfold appE
 rw [hx]
 simp only []
 rw [hf]
 simp [appendIn]
theorem rtests_ok {S : Set'} {v : V} {L : List Te} (hv : TestsV h S v L) (hS : ∀ b, S b → R b) (hl : L.length ≤ 1000000000) : SF Try.prog 40 [v] h R W fun r h' => OwnS 3 h.n h' r L.length (flatT L) 79 ∧ h.n ≤ h'.n ∧ ∀ b, b < h.n → h'.get b = h.get b := by
 have hfl := flatT_len L
 obtain ⟨hx, rs, hf, hrs⟩ := first_lrs hv
 refine SF.go hm Try.func40 ir40_eq ?_
 have hrR : allB (fun b => h.n ≤ b ∨ R b) rs := allB_of fun b hb => .inr (hS b (hrs b hb))
 by_cases h0 : L.length = 0
 ·obtain rfl : L = [] := List.length_eq_zero_iff.1 h0
  simp only [flatT, List.flatMap_nil, List.length_nil] at hx hf
  have hA := app_nil0 (e := 79) (bytes := 24) hx hf
  simp -implicitDefEqProofs (disch := (first | omega | fail)) only [go_sem, seval, ↓reduceIte, reduceCtorEq, ir40, appendV_of ap_22, hA, hrR]
  exact OwnS.nil 3 _ _ 79
 ·obtain ⟨v', h', r, w, hap, ho, hn, hk, hw, _, _, hr⟩ := app_ownS (n0 := h.n) (h := h) (v := .slice none 0 0 true) (n := 0) (l := []) (e := 79) (bytes := 24) (OwnS.nil 3 _ _ 79) (Nat.le_refl _) hx hf (by omega) (allOne_flatT L) (by omega) (by omega) (by omega)
  rw [Nat.zero_add, List.nil_append] at ho
  have hrR' : allB (fun b => h.n ≤ b ∨ R b) r := allB_of fun b hb => (hr b hb).elim (fun h => .inr (hS b (hrs b h))) .inl
  have hwW : allB (fun b => h.n ≤ b ∨ W b) w := allB_of fun b hb => .inl (hw b hb)
  simp -implicitDefEqProofs (disch := (first | omega | fail)) only [go_sem, seval, ↓reduceIte, reduceCtorEq, ir40, appendV_of ap_22, hap, hrR', hwW]
  exact ⟨ho, hn, hk⟩
end Go.Proofs.Ytmimialblhlklaa
namespace Go.Proofs.Ytmimialblhlklaa
open Go Go.Vm
variable {h : Heap} {R W I : Set'} {rd : Nat} {bl : Nat → Nat} {qs : List Nat} {S : AT}
def PtV (g : Heap) (I : Set') (v : V) (y : Option Pt) : Prop := ∃ vi vf vr vl, v = .agg [vi, vf, vr, vl] ∧ PortC g I (Blk.of [vi, vf, vr, vl]) 0 y
theorem PortC.ones {c : Blk} {o : Nat} {y : Option Pt} (hp : PortC h I c o y) : (c.get o).one = true ∧ (c.get (o + 1)).one = true ∧ (c.get (o + 2)).one = true ∧ (c.get (o + 3)).one = true := by
 cases y with
 | none => obtain ⟨h1, h2, h3, h4⟩ := hp; rw [h1, h2, h3, h4]; exact ⟨rfl, rfl, rfl, rfl⟩
 | some x => obtain ⟨h1, h2, h3, h4⟩ := hp; rw [h1, h4]; exact ⟨rfl, LRs.one h2, h3.one, rfl⟩
theorem PortC.move {c : Blk} {o : Nat} {y : Option Pt} (hp : PortC h I c o y) : PortC h I (Blk.of [c.get o, c.get (o + 1), c.get (o + 2), c.get (o + 3)]) 0 y := by
 have e : ∀ a b d e : V, (Blk.of [a, b, d, e]).get 0 = a ∧ (Blk.of [a, b, d, e]).get (0 + 1) = b ∧ (Blk.of [a, b, d, e]).get (0 + 2) = d ∧ (Blk.of [a, b, d, e]).get (0 + 3) = e := fun a b d e => ⟨rfl, rfl, rfl, rfl⟩
 obtain ⟨e0, e1, e2, e3⟩ := e (c.get o) (c.get (o + 1)) (c.get (o + 2)) (c.get (o + 3))
 cases y with
 | none => exact ⟨e0.trans hp.1, e1.trans hp.2.1, e2.trans hp.2.2.1, e3.trans hp.2.2.2⟩
 | some x =>
  obtain ⟨h1, h2, h3, h5⟩ := hp
  exact ⟨e0.trans h1, by rw [e1]; exact h2, by rw [e2]; exact h3, e3.trans h5⟩
theorem RPorts.old {h' : Heap} (hr : RPorts h I rd bl qs S) (hk : ∀ b, b < h.n → h'.get b = h.get b) : RPorts h' I rd bl qs S := hr.same fun k h1 => hk k (by
 rcases h1 with h1 | ⟨a, ha, rfl⟩
 ·obtain ⟨c, e, h2, _⟩ := hr.imm k h1
  exact Heap.lt_of_get h2
 ·obtain ⟨c, h2, _⟩ := hr.b a _ (List.getElem?_eq_getElem ha)
  exact Heap.lt_of_get h2)
theorem rget_ok (hr : RPorts h I rd bl qs S) (hR : ∀ b, R b) (a n : Int) : SF Try.prog 57 [.ptr (some (rd, 0)), .int .i64 a, .int .i64 n] h R W fun r h' => (∃ v, r = .tuple [v, .bool (decide (askA qs S a n = 0))] ∧ PtV h' I v (if askA qs S a n = 0 then lookA S a n else none)) ∧ h.n ≤ h'.n ∧ ∀ b, b < h.n → h'.get b = h.get b := by
 refine SF.go hm Try.func57 ir57_eq ?_
 simp -implicitDefEqProofs (disch := (first | omega | fail)) only [go_sem, seval, ↓reduceIte, reduceCtorEq, ir57]
 obtain ⟨g, e0, n0, b0, hk⟩ : ∃ g, h.push (.cells (Blk.of [V.bool false, V.slice none 0 0 true, V.slice none 0 0 true, V.int .i64 0]) 109) = g ∧ g.n = h.n + 1 ∧ g.get h.n = some (.cells (Blk.of [V.bool false, V.slice none 0 0 true, V.slice none 0 0 true, V.int .i64 0]) 109) ∧ ∀ b, b < h.n → g.get b = h.get b := ⟨_, rfl, by simp, w_push_eq rfl _, fun b hb => w_push_ne (by omega) _⟩
 rw [e0]
 have hr0 := hr.old hk
 have hlg := Heap.lt_of_get b0
 have hIg : ∀ k, I k → k < h.n := fun k h1 => by obtain ⟨c, e, h2, _⟩ := hr.imm k h1; exact Heap.lt_of_get h2
 refine GCall.of (rask_ok hr0 (fun b => .inr (hR b)) a n) ?_
 rintro r g ⟨rfl, rfl⟩
 have hRn := hR h.n
 by_cases hz : askA qs S a n = 0
 ·have hz' : (askA qs S a n != 0) = false := by simp [hz]
  simp only [hz, decide_true, if_true]
  have ha : okA qs a := by
   unfold askA at hz
   by_cases h : okA qs a
   ·exact h
   ·rw [if_neg h] at hz; cases hz
  have hsome : (lookA S a n).isSome = true := by
   unfold askA at hz
   rw [if_pos ha] at hz
   by_cases h : (lookA S a n).isSome = true
   ·exact h
   ·rw [if_neg h] at hz; cases hz
  obtain ⟨x, hx⟩ := Option.isSome_iff_exists.1 hsome
  have hx2 := hx
  unfold lookA at hx2
  split at hx2
  rotate_left
  ·cases hx2
  rename_i hpos
  obtain ⟨i, rfl⟩ : ∃ i : Nat, a = (i : Int) := ⟨a.toNat, by omega⟩
  obtain ⟨m, rfl⟩ : ∃ m : Nat, n = (m : Int) := ⟨n.toNat, by omega⟩
  rw [Int.toNat_natCast, Int.toNat_natCast] at hx2
  obtain ⟨q, hq, hmq⟩ := hr0.dom _ _ _ hx2
  have hi : i < qs.length := (List.getElem?_eq_some_iff.1 hq).1
  obtain ⟨c, b, o, cap, ex, cc, ce, c1, c2, c3, c4, c5, c6, _⟩ := hr0.acc hi
  have hqi : qs[i] = q := by rw [List.getElem?_eq_getElem hi] at hq; exact Option.some.inj hq
  rw [hqi] at c6
  obtain ⟨cb, b1, b2, b3, b4⟩ := hr0.b i q hq
  have hm4 := b4 m hmq
  obtain ⟨o0, o1, o2, o3⟩ := hm4.ones
  have hRd := hR rd; have hRb := hR b; have hRl := hR (bl i)
  have hz1 : (i : Int) < (qs.length : Int) := ha.2
  have hi0 : (0 : Int) ≤ (i : Int) := ha.1
  have hz2 : (m : Int) < (q : Int) := by omega
  have hm0 : (0 : Int) ≤ (m : Int) := by omega
  have hsz : m * 4 + 4 ≤ cb.size := by rw [b2]; omega
  simp -implicitDefEqProofs (disch := (first | omega | fail)) only [go_sem, seval, ↓reduceIte, reduceCtorEq, undefV, c1, c2, c3, c4, c6, hRd, hRb, hRl, hRn, hz1, hi0, hz2, hm0, b1, ↓o0, ↓o1, ↓o2, ↓o3, b0]
  refine ⟨⟨_, rfl, _, _, _, _, rfl, ?_⟩, by omega, fun b hb => by rw [w_set_ne hlg (by omega)]; exact hk b hb⟩
  rw [hx, ← hx2]
  exact hm4.move.same fun k h1 => w_set_ne hlg (by have := hIg k h1; omega) _
 ·have hz' : (askA qs S a n != 0) = true := by simpa using hz
  rw [decide_eq_false hz, if_neg hz]
  simp -implicitDefEqProofs (disch := (first | omega | fail)) only [go_sem, seval, ↓reduceIte, reduceCtorEq, undefV, hz', b0, hRn]
  exact ⟨⟨_, rfl, _, _, _, _, rfl, ⟨rfl, rfl, rfl, rfl⟩⟩, by omega, fun b hb => by rw [w_set_ne hlg (by omega)]; exact hk b hb⟩
end Go.Proofs.Ytmimialblhlklaa
namespace Go.Proofs.Ytmimialblhlklaa
open Go Go.Vm
variable {h : Heap} {R W I : Set'}
theorem rhome_ok {S : Set'} {v : V} {l : List V} (hv : LR h S v l) (hb : Byt l) (hR : ∀ b, R b) : SF Try.prog 20 [v] h R W fun r h' => r = homeV l ∧ h' = h := by
 have hlen := hv.lenV Try.underlying36
 refine SF.go hm Try.func20 ir20_eq ?_
 cases l with
 | nil =>
  simp -implicitDefEqProofs (disch := (first | omega | fail)) only [go_sem, seval, ↓reduceIte, reduceCtorEq, ir20, ↓hlen, undefV]
  rfl
 | cons x l =>
  obtain ⟨b, o, cap, ex, c, ce, rfl, hS, hbk, hs, hg⟩ := hv.get (i := 0) (by simp)
  obtain ⟨n, rfl, n0, n1⟩ := hb x (by simp)
  have hRb := hR b
  simp only [List.getD_cons_zero, Nat.add_zero] at hg
  have hz : ¬ ((V.int .u8 n :: l).length : Int) = 0 := by simp only [List.length_cons]; omega
  have hlt : (0 : Int) < ((V.int .u8 n :: l).length : Int) := by simp only [List.length_cons]; omega
  have hs' : o < c.size := by simp only [List.length_cons] at hs; omega
  have hw : IntKind.i64.wrap n = n := IntWalk.i64_in _ (by omega)
  generalize (V.int .u8 n :: l).length = m at *
  by_cases h8 : 8 ≤ n
  ·simp -implicitDefEqProofs (disch := (first | omega | fail)) only [go_sem, seval, ↓reduceIte, reduceCtorEq, ir20, ↓hlen, hlt, hRb, hbk, hg]
   rw [homeV, show homeP (V.int .u8 n :: l) = if n < 8 then some n.toNat else none from rfl, if_neg (by omega)]
  ·simp -implicitDefEqProofs (disch := (first | omega | fail)) only [go_sem, seval, ↓reduceIte, reduceCtorEq, ir20, ↓hlen, hlt, hRb, hbk, hg, ↓cv5_3, c5_3, hw]
   rw [homeV, show homeP (V.int .u8 n :: l) = if n < 8 then some n.toNat else none from rfl, if_pos (by omega)]
   simp only []
   rw [show ((n.toNat : Nat) : Int) = n by omega]
end Go.Proofs.Ytmimialblhlklaa
