/- Filters: does a packet pass? -/
import Derived.Test.YtmimialblhlklaaF2
import Derived.Test.YtmimialblhlklaaV4
set_option linter.unusedVariables false
set_option maxRecDepth 100000
namespace Go.Proofs.Ytmimialblhlklaa
open Go Go.Vm
variable {h : Heap} {R W I : Set'}
def andI (a b : Int) : Int := IntKind.i64.wrap ((BitVec.ofInt 64 a &&& BitVec.ofInt 64 b).toNat : Int)
theorem and_eq (a b : Int) : intBin .and .i64 a b = some (.int .i64 (andI a b)) := rfl
def bytN (l : List V) (i : Nat) : Int := match l.getD i undefV with
 | .int _ n => n
 | _ => 0
theorem bytN_eq {l : List V} (hb : Byt l) {i : Nat} (hi : i < l.length) : l.getD i undefV = .int .u8 (bytN l i) ∧ 0 ≤ bytN l i ∧ bytN l i ≤ 255 := by
 obtain ⟨n, e, h0, h1⟩ := hb l[i] (List.getElem_mem hi)
 have e2 : l.getD i undefV = .int .u8 n := by rw [List.getD_eq_getElem?_getD, List.getElem?_eq_getElem hi, e]; rfl
 unfold bytN
 rw [e2]
 exact ⟨rfl, h0, h1⟩
def badT (l : List V) (t : Te) : Bool := decide ((l.length : Int) ≤ t.at') || !(andI (bytN l t.at'.toNat) t.mask == t.val)
theorem cv5_3D {P : Program} {tm : Tm} {h : Heap} {K : V → Heap → Set' → Set' → Prop} (x : Operand) : LOpD P tm h (.convert 5 3 x) K = onO (evV tm x) fun a => onO (convV P 5 3 a h) fun r => K r.1 h (fun x => x ∈ r.2) (fun x => x ∈ ([] : List Nat)) := by
 apply LOpD_convert; decide
set_option maxHeartbeats 2000000 in
theorem f78_ok {S : Set'} {b : Nat} {c : Blk} {v : V} {l : List V} (hb : h.get b = some (.cells c 36)) (hs : c.size = 1) (hv : c.get 0 = v) (hl : LR h S v l) (hby : Byt l) (hR : ∀ b, R b) {t : Te} (ht : okTe t) : SF Try.prog 78 [.agg [.int .i64 t.at', .int .i64 t.mask, .int .i64 t.val], .ptr (some (b, 0))] h R W fun r h' => r = .bool (badT l t) ∧ h.n ≤ h'.n ∧ ∀ b, b < h.n → h'.get b = h.get b := by
 have hlen := hl.lenV Try.underlying36
 have hRb := hR b
 have hlt := Heap.lt_of_get hb
 have hb' : ∀ o, (h.push o).get b = some (.cells c 36) := fun o => by rw [w_push_ne (by omega)]; exact hb
 obtain ⟨h0, h1, h2, h3, h4, h5⟩ := ht
 refine SF.go hm Try.func78 ir78_eq ?_
 by_cases ha : (l.length : Int) ≤ t.at'
 ·simp -implicitDefEqProofs (disch := (first | omega | (simp -implicitDefEqProofs only [szs, ne_eq] <;> omega) | fail)) only [go_sem, seval, ↓reduceIte, reduceCtorEq, ir78, undefV, hb', hs, hv, ↓hlen, hRb]
  refine ⟨?_, ?_⟩
  ·simp only [false_implies, implies_true, and_true]
   try and_intros
   all_goals (intros; first | exact .inr hRb | omega)
  ·unfold badT
   rw [decide_eq_true ha]
   exact ⟨rfl, fun b hb => by simp -implicitDefEqProofs (disch := (first | omega | (simp -implicitDefEqProofs only [szs, ne_eq] <;> omega) | fail)) only [go_sem, seval]⟩
 ·obtain ⟨i, hi⟩ := Int.eq_ofNat_of_zero_le h0
  have hil : i < l.length := by omega
  obtain ⟨bk, o, cap, ex, cc, ce, e, hS, hbk, hsk, hg⟩ := hl.get hil
  obtain ⟨hbe, hb0, hb1⟩ := bytN_eq hby hil
  rw [hbe] at hg
  have hRk := hR bk
  have hltk := Heap.lt_of_get hbk
  have hbk' : ∀ o, (h.push o).get bk = some (.cells cc ce) := fun o => by rw [w_push_ne (by omega)]; exact hbk
  have hw : IntKind.i64.wrap (bytN l i) = bytN l i := IntWalk.i64_in _ (by omega)
  have ha' : (l.length : Int) ≤ (i : Int) ↔ False := by rw [← hi]; simp; omega
  subst e
  have hbt : badT l t = !(andI (bytN l i) t.mask == t.val) := by
   unfold badT
   rw [decide_eq_false ha, hi]; simp
  rw [hbt]
  simp -implicitDefEqProofs (disch := (first | omega | (simp -implicitDefEqProofs only [szs, ne_eq] <;> omega) | fail)) only [go_sem, seval, ↓reduceIte, reduceCtorEq, ir78, undefV, hb', hs, hv, ↓hlen, hRb, hi, hbk', hg, hRk, ↓cv5_3D, c5_3, hw, ↓and_eq]
  exact fun b hb => by simp -implicitDefEqProofs (disch := (first | omega | (simp -implicitDefEqProofs only [szs, ne_eq] <;> omega) | fail)) only [go_sem, seval]
set_option maxHeartbeats 2000000 in
theorem f91_ok {S S2 : Set'} {b : Nat} {c : Blk} {v vf : V} {l : List V} {L : List Te} (hb : h.get b = some (.cells c 36)) (hs : c.size = 1) (hv : c.get 0 = v) (hl : LR h S v l) (hby : Byt l) (hf : TestsV h S2 vf L) (hL : ∀ t ∈ L, okTe t) (h8 : L.length ≤ 8) (hR : ∀ b, R b) : SF Try.prog 91 [vf, .func 78 [] [.ptr (some (b, 0))]] h R W fun r h' => (∃ k : Int, r = .int .i64 k ∧ (0 ≤ k ↔ L.any (badT l) = true)) ∧ h.n ≤ h'.n ∧ ∀ b, b < h.n → h'.get b = h.get b := by
 have hlen := LRs.lenV Try.underlying22 hf
 have hlt := Heap.lt_of_get hb
 refine SF.go hm Try.func91 ir91_eq ?_
 simp -implicitDefEqProofs (disch := (first | omega | fail)) only [go_sem, seval, ↓reduceIte, reduceCtorEq, ir91, ↓hlen]
 refine GLoop.inv hm (fun k f g => f.mks = [] ∧ f.tm.n = 19 ∧ f.tm.get 0 = some vf ∧ f.tm.get 1 = some (.func 78 [] [.ptr (some (b, 0))]) ∧ f.tm.get 7 = some (.int .i64 (L.length : Int)) ∧ h.n ≤ g.n ∧ (∀ b, b < h.n → g.get b = h.get b) ∧ ∃ i : Nat, i + k = L.length ∧ f.tm.get 8 = some (.int .i64 (i : Int)) ∧ (L.take i).any (badT l) = false) L.length ?_ ?_
 ·exact ⟨rfl, rfl, by simp -implicitDefEqProofs (disch := (first | omega | fail)) only [go_sem, seval, ↓reduceIte], by simp -implicitDefEqProofs (disch := (first | omega | fail)) only [go_sem, seval, ↓reduceIte, reduceCtorEq], by simp -implicitDefEqProofs (disch := (first | omega | fail)) only [go_sem, seval, ↓reduceIte, reduceCtorEq], Nat.le_refl _, fun _ _ => rfl, 0, by omega, by simp -implicitDefEqProofs (disch := (first | omega | fail)) only [go_sem, Nat.reduceSub, Nat.reduceMod, Nat.reduceDiv, ↓reduceIte, reduceCtorEq]; rfl, by simp⟩
 rintro k ⟨⟨n', tr⟩, mks⟩ g ⟨hmk, hn', t0, t1, t7, hgn, hold, i, hik, t8, hno⟩
 simp only [Tm.get_mk] at hmk hn' t0 t1 t7 t8
 subst hmk hn'
 by_cases hin : i < L.length
 ·have hi := List.getElem?_eq_getElem hin
  have hok := hL L[i] (List.getElem_mem hin)
  obtain ⟨b2, o, cap, ex, c2, ce, rfl, hS, hb2, hs2, c0, c1, c3⟩ := (hf.old hold).get hi
  generalize ht : L[i] = t at hi c0 c1 c3 hok
  have hRb := hR b2
  simp -implicitDefEqProofs (disch := (first | omega | fail)) only [go_sem, seval, ↓reduceIte, reduceCtorEq, ir91_l0, t0, t1, t7, t8, hRb, hb2, c0, c1, c3]
  refine GCall.of (((f78_ok (R := fun _ => True) (W := fun _ => False) ((hold b hlt).trans hb) hs hv (hl.old hold) hby (fun _ => trivial) hok).kept).foot (fun b _ => .inr (hR b)) (fun _ h => h.elim)) ?_
  rintro r g2 ⟨⟨rfl, hn2, hk2⟩, _⟩
  cases hbt : badT l t with
  | true =>
   simp -implicitDefEqProofs (disch := (first | omega | fail)) only [go_sem, seval, ↓reduceIte]
   refine ⟨⟨(i : Int), rfl, fun _ => ?_, fun _ => by omega⟩, by omega, fun b hb => by rw [hk2 b (by omega), hold b hb]⟩
   exact List.any_eq_true.2 ⟨t, List.mem_of_getElem? hi, hbt⟩
  | false =>
   simp -implicitDefEqProofs (disch := (first | omega | fail)) only [go_sem, seval, ↓reduceIte, reduceCtorEq, t0, t1, t7, t8]
   refine ⟨k - 1, by omega, by omega, fun b hb => by rw [hk2 b (by omega), hold b hb], i + 1, by omega, rfl, ?_⟩
   rw [List.take_add_one, hi, List.any_append, hno]
   simp [hbt]
 ·obtain rfl : i = L.length := by omega
  rw [List.take_length] at hno
  simp -implicitDefEqProofs (disch := (first | omega | fail)) only [go_sem, seval, ↓reduceIte, ir91_l0, t7, t8]
  exact ⟨⟨-1, rfl, fun h => by omega, fun h => by rw [hno] at h; cases h⟩, hgn, hold⟩
theorem f77_ok {S S2 : Set'} {b : Nat} {c : Blk} {v vf : V} {l : List V} {L : List Te} (hb : h.get b = some (.cells c 36)) (hs : c.size = 1) (hv : c.get 0 = v) (hl : LR h S v l) (hby : Byt l) (hf : TestsV h S2 vf L) (hL : ∀ t ∈ L, okTe t) (h8 : L.length ≤ 8) (hR : ∀ b, R b) : SF Try.prog 77 [vf, .func 78 [] [.ptr (some (b, 0))]] h R W fun r h' => r = .bool (L.any (badT l)) ∧ h.n ≤ h'.n ∧ ∀ b, b < h.n → h'.get b = h.get b := by
 refine SF.go hm Try.func77 ir77_eq ?_
 simp -implicitDefEqProofs (disch := (first | omega | fail)) only [go_sem, seval, ↓reduceIte, reduceCtorEq, ir77]
 refine GCall.of (((f91_ok (R := fun _ => True) (W := fun _ => False) hb hs hv hl hby hf hL h8 (fun _ => trivial)).kept).foot (fun b _ => .inr (hR b)) (fun _ h => h.elim)) ?_
 rintro r g ⟨⟨⟨k, rfl, hk⟩, hn, hold⟩, _⟩
 by_cases h0 : 0 ≤ k
 ·simp -implicitDefEqProofs (disch := (first | omega | fail)) only [go_sem, seval, ↓reduceIte, reduceCtorEq]
  rw [hk.1 h0]
  exact ⟨rfl, hn, hold⟩
 ·simp -implicitDefEqProofs (disch := (first | omega | fail)) only [go_sem, seval, ↓reduceIte, reduceCtorEq]
  have : L.any (badT l) = false := by
   cases he : L.any (badT l) with
   | false => rfl
   | true => exact absurd (hk.2 he) h0
  rw [this]
  exact ⟨rfl, hn, hold⟩
def matchP (L : List Te) (l : List V) : Bool := decide (okF L ∧ l.length ≤ 64) && !(L.any (badT l))
theorem match_ok {S S2 : Set'} {v vf : V} {l : List V} {L : List Te} (hl : LR h S v l) (hby : Byt l) (hf : TestsV h S2 vf L) (hR : ∀ b, R b) : SF Try.prog 66 [vf, v] h R W fun r h' => r = .bool (matchP L l) ∧ h.n ≤ h'.n ∧ ∀ b, b < h.n → h'.get b = h.get b := by
 have hlen := hl.lenV Try.underlying36
 have hvo := hl.one
 have hvc := hl.cells
 refine SF.go hm Try.func66 ir66_eq ?_
 simp -implicitDefEqProofs (disch := (first | omega | (simp -implicitDefEqProofs only [szs, ne_eq] <;> omega) | fail)) only [go_sem, seval, ↓reduceIte, reduceCtorEq, ir66, ↓hvc]
 refine GCall.of (((check_ok (R := fun _ => True) (W := fun _ => False) (hf.old (h' := h.push (.cells (Blk.of [v]) 36)) fun b hb => w_push_ne (by omega) _) (fun _ => trivial)).kept).foot (fun b _ => .inr (hR b)) (fun _ h => h.elim)) ?_
 rintro r g ⟨⟨rfl, hn, hold⟩, _⟩
 simp only [Heap.n_push] at hn
 have hb := hold h.n (by simp only [Heap.n_push]; omega)
 rw [w_push_eq rfl] at hb
 have ho : ∀ b, b < h.n → g.get b = h.get b := fun b hb => by rw [hold b (by simp only [Heap.n_push]; omega), w_push_ne (by omega)]
 have hRn := hR h.n
 have hmf : ¬ (okF L ∧ l.length ≤ 64) → matchP L l = false := fun h => by unfold matchP; rw [decide_eq_false h]; rfl
 by_cases hok : okF L
 ·simp only [if_pos hok]
  by_cases h64 : 64 < (l.length : Int)
  ·simp -implicitDefEqProofs (disch := (first | omega | (simp -implicitDefEqProofs only [szs, ne_eq] <;> omega) | fail)) only [go_sem, seval, ↓reduceIte, reduceCtorEq, undefV, hb, ↓hlen, hRn]
   rw [hmf (fun h => by have := h.2; omega)]
   exact ⟨rfl, by omega, ho⟩
  ·simp -implicitDefEqProofs (disch := (first | omega | (simp -implicitDefEqProofs only [szs, ne_eq] <;> omega) | fail)) only [go_sem, seval, ↓reduceIte, reduceCtorEq, undefV, hb, ↓hlen, hRn]
   refine GCall.of (((f77_ok (R := fun _ => True) (W := fun _ => False) hb rfl rfl (hl.old ho) hby (hf.old ho) hok.2 hok.1 (fun _ => trivial)).kept).foot (fun b _ => .inr (hR b)) (fun _ h => h.elim)) ?_
   rintro r g2 ⟨⟨rfl, hn2, hk2⟩, _⟩
   have hm' : matchP L l = !(L.any (badT l)) := by unfold matchP; rw [decide_eq_true ⟨hok, by omega⟩]; rfl
   rw [hm']
   cases L.any (badT l) with
   | true =>
    simp -implicitDefEqProofs (disch := (first | omega | (simp -implicitDefEqProofs only [szs, ne_eq] <;> omega) | fail)) only [go_sem, seval, ↓reduceIte, reduceCtorEq]
    exact ⟨by omega, fun b hb => by rw [hk2 b (by omega), ho b hb]⟩
   | false =>
    simp -implicitDefEqProofs (disch := (first | omega | (simp -implicitDefEqProofs only [szs, ne_eq] <;> omega) | fail)) only [go_sem, seval, ↓reduceIte, reduceCtorEq]
    exact ⟨by omega, fun b hb => by rw [hk2 b (by omega), ho b hb]⟩
 ·simp only [if_neg hok]
  simp -implicitDefEqProofs (disch := (first | omega | (simp -implicitDefEqProofs only [szs, ne_eq] <;> omega) | fail)) only [go_sem, seval, ↓reduceIte, reduceCtorEq, undefV]
  rw [hmf (fun h => hok h.1)]
  exact ⟨rfl, by omega, ho⟩
end Go.Proofs.Ytmimialblhlklaa
