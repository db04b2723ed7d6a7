/- The law's and the document's helpers: num, SameInts, SameCame; strings of bytes. -/
import Derived.Test.YtmimialblhlklaaG1
set_option linter.unusedVariables false
set_option maxRecDepth 100000
namespace Go.Proofs.Ytmimialblhlklaa
open Go Go.Vm
variable {h : Heap} {R W I : Set'}
theorem num_ok (n : Int) : SF Try.prog 11 [.int .i64 n] h R W fun r g => r = .int .i64 n ∧ g = h := by
 refine SF.go hm Try.func11 ir11_eq ?_
 simp -implicitDefEqProofs (disch := (first | omega | fail)) only [go_sem, seval, ↓reduceIte, reduceCtorEq, ir11]
theorem same_step {α : Type} {a b : List α} {p : Nat} (hl : a.length = b.length) (hs : ∀ i, i < p → a[i]? = b[i]?) (hp : a.length ≤ p) : a = b := by
 refine List.ext_getElem? fun i => ?_
 by_cases hi : i < p
 ·exact hs i hi
 ·rw [List.getElem?_eq_none (by omega), List.getElem?_eq_none (by omega)]
theorem sameints_ok {S1 S2 : Set'} {v1 v2 : V} {a b : List Int} (h1 : LR h S1 v1 (a.map (.int .i64))) (h2 : LR h S2 v2 (b.map (.int .i64))) (hR : ∀ b, R b) (ha : a.length ≤ 1000000) : SF Try.prog 39 [v1, v2] h R W fun v h' => v = .bool (decide (a = b)) ∧ h' = h := by
 have hl1 := h1.lenV Try.underlying30
 have hl2 := h2.lenV Try.underlying30
 rw [List.length_map] at hl1 hl2
 refine SF.go hm Try.func39 ir39_eq ?_
 by_cases hl : a.length = b.length
 ·have hn : ((a.length : Int) != (b.length : Int)) = false := by simp [hl]
  simp -implicitDefEqProofs (disch := (first | omega | fail)) only [go_sem, seval, ↓reduceIte, reduceCtorEq, ir39, ↓hl1, ↓hl2, hn]
  refine GLoop.inv hm (fun k f g => f.mks = [] ∧ f.tm.n = 26 ∧ f.tm.get 0 = some v1 ∧ f.tm.get 1 = some v2 ∧ g = h ∧ ∃ (p : Nat), p + k = a.length ∧ f.tm.get 5 = some (.int .i64 p) ∧ ∀ i, i < p → a[i]? = b[i]?) a.length ?_ ?_
  ·exact ⟨rfl, rfl, by simp -implicitDefEqProofs (disch := (first | omega | fail)) only [go_sem, seval, ↓reduceIte], by simp -implicitDefEqProofs (disch := (first | omega | fail)) only [go_sem, seval, ↓reduceIte, reduceCtorEq], rfl, 0, by omega, by simp -implicitDefEqProofs (disch := (first | omega | fail)) only [go_sem, Nat.reduceSub, Nat.reduceMod, Nat.reduceDiv, ↓reduceIte, reduceCtorEq]; rfl, fun i hi => by omega⟩
  rintro k ⟨⟨n', tr⟩, mks⟩ g ⟨hmk, hn', t0, u1, rfl, p, hpk, t5, hs⟩
  simp only [Tm.get_mk] at hmk hn' t0 u1 t5
  subst hmk hn'
  by_cases hp : p < a.length
  ·obtain ⟨b1, o1, cap1, ex1, c1, ce1, rfl, hb1, i1, j1, l1⟩ := h1.get (i := p) (by rw [List.length_map]; exact hp)
   obtain ⟨b2, o2, cap2, ex2, c2, ce2, rfl, hb2, i2, j2, l2⟩ := h2.get (i := p) (by rw [List.length_map]; omega)
   have hR1 := hR b1
   have hR2 := hR b2
   rw [List.length_map] at j1 j2
   have hpb : p < b.length := by omega
   have g1 : (a.map (V.int .i64)).getD p undefV = .int .i64 a[p] := by simp [hp]
   have g2 : (b.map (V.int .i64)).getD p undefV = .int .i64 b[p] := by simp [hpb]
   rw [g1] at l1
   rw [g2] at l2
   have p1 : (p : Int) < (a.length : Int) := by omega
   have p2 : (p : Int) < (b.length : Int) := by omega
   have p0 : (0 : Int) ≤ (p : Int) := by omega
   by_cases he : a[p] = b[p]
   ·have hne : (a[p] != b[p]) = false := by simp [he]
    simp -implicitDefEqProofs (disch := (first | omega | fail)) only [go_sem, seval, ↓reduceIte, reduceCtorEq, ir39_l0, t0, u1, t5, hR1, hR2, i1, i2, l1, l2, hne, List.length_map, p0, p1, p2]
    refine ⟨k - 1, by omega, p + 1, by omega, by simp, fun i hi => ?_⟩
    ·by_cases e : i = p
     ·subst e; rw [List.getElem?_eq_getElem hp, List.getElem?_eq_getElem hpb, he]
     ·exact hs i (by omega)
   ·have hne : (a[p] != b[p]) = true := by simpa using he
    simp -implicitDefEqProofs (disch := (first | omega | fail)) only [go_sem, seval, ↓reduceIte, reduceCtorEq, ir39_l0, t0, u1, t5, hR1, hR2, i1, i2, l1, l2, hne, List.length_map, p0, p1, p2]
    have : ¬ a = b := fun e => he (by simp [e])
    rw [decide_eq_false this]
  ·have e : a = b := same_step hl hs (by omega)
   have p1 : ¬ (p : Int) < (a.length : Int) := by omega
   simp -implicitDefEqProofs (disch := (first | omega | fail)) only [go_sem, seval, ↓reduceIte, reduceCtorEq, ir39_l0, t0, t5, ↓hl1, p1]
   rw [decide_eq_true e]
 ·have hn : ((a.length : Int) != (b.length : Int)) = true := by simp; omega
  simp -implicitDefEqProofs (disch := (first | omega | fail)) only [go_sem, seval, ↓reduceIte, reduceCtorEq, ir39, ↓hl1, ↓hl2, hn]
  rw [decide_eq_false fun e => hl (by rw [e])]
theorem flatC_get : ∀ {L : List (Nat × Bool)} {p : Nat} {x : Nat × Bool}, L[p]? = some x → (flatC L).getD (p * 2) undefV = .int .i64 (x.1 : Int) ∧ (flatC L).getD (p * 2 + 1) undefV = .bool x.2
 | [], p, x, h => by simp at h
 | y :: L, 0, x, h => by
  simp at h; subst h
  exact ⟨rfl, rfl⟩
 | y :: L, p + 1, x, h => by
  have := flatC_get (L := L) (p := p) (x := x) (by simpa using h)
  have e : flatC (y :: L) = .int .i64 (y.1 : Int) :: .bool y.2 :: flatC L := rfl
  rw [e, show (p + 1) * 2 = (p * 2 + 1) + 1 by omega, show (p * 2 + 1) + 1 + 1 = (p * 2 + 1 + 1) + 1 by omega]
  simp only [List.getD_cons_succ]
  exact this
theorem eq_41 (a b : Int) (x y : Bool) : eqD Try.prog 10 41 (.agg [.int .i64 a, .bool x]) (.agg [.int .i64 b, .bool y]) = some (decide (a = b ∧ x = y)) := by
 have e : eqD Try.prog 10 41 (.agg [.int .i64 a, .bool x]) (.agg [.int .i64 b, .bool y]) = (match (a == b) with | true => (match (x == y) with | true => some true | false => some false) | false => some false) := by kernel_rfl
 rw [e]
 by_cases h1 : a = b
 ·subst h1
  cases x <;> cases y <;> simp
 ·have h3 : (a == b) = false := by simpa using h1
  rw [h3, decide_eq_false fun h => h1 h.1]
theorem eg_41 : Try.prog.eqGuardType Try.prog.depth 41 = false := by kernel_rfl
theorem samecame_ok {S1 S2 : Set'} {v1 v2 : V} {a b : List (Nat × Bool)} (h1 : LRs 2 h S1 v1 a.length (flatC a)) (h2 : LRs 2 h S2 v2 b.length (flatC b)) (hR : ∀ b, R b) (ha : a.length ≤ 1000000) : SF Try.prog 28 [v1, v2] h R W fun v h' => v = .bool (decide (a = b)) ∧ h' = h := by
 have hl1 := h1.lenV Try.underlying37
 have hl2 := h2.lenV Try.underlying37
 refine SF.go hm Try.func28 ir28_eq ?_
 by_cases hl : a.length = b.length
 ·have hn : ((a.length : Int) != (b.length : Int)) = false := by simp [hl]
  simp -implicitDefEqProofs (disch := (first | omega | fail)) only [go_sem, seval, ↓reduceIte, reduceCtorEq, ir28, ↓hl1, ↓hl2, hn]
  refine GLoop.inv hm (fun k f g => f.mks = [] ∧ f.tm.n = 26 ∧ f.tm.get 0 = some v1 ∧ f.tm.get 1 = some v2 ∧ g = h ∧ ∃ (p : Nat), p + k = a.length ∧ f.tm.get 5 = some (.int .i64 p) ∧ ∀ i, i < p → a[i]? = b[i]?) a.length ?_ ?_
  ·exact ⟨rfl, rfl, by simp -implicitDefEqProofs (disch := (first | omega | fail)) only [go_sem, seval, ↓reduceIte], by simp -implicitDefEqProofs (disch := (first | omega | fail)) only [go_sem, seval, ↓reduceIte, reduceCtorEq], rfl, 0, by omega, by simp -implicitDefEqProofs (disch := (first | omega | fail)) only [go_sem, Nat.reduceSub, Nat.reduceMod, Nat.reduceDiv, ↓reduceIte, reduceCtorEq]; rfl, fun i hi => by omega⟩
  rintro k ⟨⟨n', tr⟩, mks⟩ g ⟨hmk, hn', t0, u1, rfl, p, hpk, t5, hs⟩
  simp only [Tm.get_mk] at hmk hn' t0 u1 t5
  subst hmk hn'
  by_cases hp : p < a.length
  ·have hpb : p < b.length := by omega
   obtain ⟨b1, o1, cap1, ex1, c1, ce1, rfl, hb1, i1, j1, l1⟩ := h1.get (by omega)
   obtain ⟨b2, o2, cap2, ex2, c2, ce2, rfl, hb2, i2, j2, l2⟩ := h2.get (by omega)
   have hR1 := hR b1
   have hR2 := hR b2
   obtain ⟨x1, x2⟩ := flatC_get (List.getElem?_eq_getElem hp)
   obtain ⟨y1, y2⟩ := flatC_get (List.getElem?_eq_getElem hpb)
   have l10 := l1 (p * 2) (by omega); rw [x1] at l10
   have l11 := l1 (p * 2 + 1) (by omega); rw [x2, ← Nat.add_assoc] at l11
   have l20 := l2 (p * 2) (by omega); rw [y1] at l20
   have l21 := l2 (p * 2 + 1) (by omega); rw [y2, ← Nat.add_assoc] at l21
   have p1 : (p : Int) < (a.length : Int) := by omega
   have p2 : (p : Int) < (b.length : Int) := by omega
   have p0 : (0 : Int) ≤ (p : Int) := by omega
   have heq := eq_41 (a[p].1 : Int) (b[p].1 : Int) a[p].2 b[p].2
   by_cases he : a[p] = b[p]
   ·rw [decide_eq_true (by rw [he]; exact ⟨rfl, rfl⟩)] at heq
    simp -implicitDefEqProofs (disch := (first | omega | fail)) only [go_sem, seval, ↓reduceIte, reduceCtorEq, ir28_l0, t0, u1, t5, ↓hl1, hR1, hR2, i1, i2, l10, l11, l20, l21, heq, eg_41, p0, p1, p2]
    refine ⟨k - 1, by omega, p + 1, by omega, by simp, fun i hi => ?_⟩
    ·by_cases e : i = p
     ·subst e; rw [List.getElem?_eq_getElem hp, List.getElem?_eq_getElem hpb, he]
     ·exact hs i (by omega)
   ·rw [decide_eq_false (fun e => he (Prod.ext (by omega) e.2))] at heq
    simp -implicitDefEqProofs (disch := (first | omega | fail)) only [go_sem, seval, ↓reduceIte, reduceCtorEq, ir28_l0, t0, u1, t5, ↓hl1, hR1, hR2, i1, i2, l10, l11, l20, l21, heq, eg_41, p0, p1, p2]
    have : ¬ a = b := fun e => he (by simp [e])
    rw [decide_eq_false this]
  ·have e : a = b := same_step hl hs (by omega)
   have p1 : ¬ (p : Int) < (a.length : Int) := by omega
   simp -implicitDefEqProofs (disch := (first | omega | fail)) only [go_sem, seval, ↓reduceIte, reduceCtorEq, ir28_l0, t0, t5, ↓hl1, p1]
   rw [decide_eq_true e]
 ·have hn : ((a.length : Int) != (b.length : Int)) = true := by simp; omega
  simp -implicitDefEqProofs (disch := (first | omega | fail)) only [go_sem, seval, ↓reduceIte, reduceCtorEq, ir28, ↓hl1, ↓hl2, hn]
  rw [decide_eq_false fun e => hl (by rw [e])]
def byteOf : V → UInt8
 | .int _ n => UInt8.ofNat n.toNat
 | _ => 0
def strB (l : List V) : ByteArray := ⟨⟨l.map byteOf⟩⟩
theorem strL_of : ∀ {l : List V}, Byt l → strL l = some (l.map byteOf)
 | [], _ => rfl
 | v :: r, h => by
  obtain ⟨n, rfl, _⟩ := h v (by simp)
  rw [strL, strL_of fun v hv => h v (by simp [hv])]
  rfl
theorem conv_lr {S : Set'} {v : V} {l : List V} (hv : LR h S v l) (hl : Byt l) : ∃ rs, convV Try.prog 36 9 v h = some (.str (strB l), rs) := by
 rcases hv with ⟨rfl, rfl | ⟨a, rfl⟩⟩ | ⟨b, o, cap, ex, c, ce, rfl, _, hb, hs, hg⟩
 ·exact ⟨[], by simp only [convV, Try.underlying36, Try.underlying9, Try.underlying5]; rfl⟩
 ·exact ⟨[], by simp only [convV, Try.underlying36, Try.underlying9, Try.underlying5]; rfl⟩
 ·exact ⟨[b], by simp only [convV, Try.underlying36, Try.underlying9, Try.underlying5, hb, w_ble_t hs, hg, strL_of hl]; rfl⟩
theorem cvS {M : MP} {R W : Set'} {tm : Tm} {h : Heap} {K : V → Heap → Prop} (x : Operand) : LOp M R W tm h (.convert 36 9 x) K = onO (evV tm x) fun a => onO (convV M.P 36 9 a h) fun r => allB R r.2 ∧ K r.1 h := by
 apply LOp_convert; decide
theorem cvSD {P : Program} {tm : Tm} {h : Heap} {K : V → Heap → Set' → Set' → Prop} (x : Operand) : LOpD P tm h (.convert 36 9 x) K = onO (evV tm x) fun a => onO (convV P 36 9 a h) fun r => K r.1 h (fun x => x ∈ r.2) (fun x => x ∈ ([] : List Nat)) := by
 apply LOpD_convert; decide
theorem sb_neq (a b : ByteArray) : strBin .neq a b = some (.bool (!decide (a = b))) := by
 show some (V.bool (!eqB a.data.toList b.data.toList)) = _
 rw [eqB_eq]
 congr 2
 by_cases h : a = b
 ·subst h; simp
 ·have : a.data.toList ≠ b.data.toList := fun e => h (by
   obtain ⟨⟨a⟩⟩ := a
   obtain ⟨⟨b⟩⟩ := b
   simp only at e
   rw [e])
  have e2 : (a.data.toList == b.data.toList) = false := beq_eq_false_iff_ne.2 this
  simp only [e2, decide_eq_false h, Bool.not_false]
theorem sb_eql (a b : ByteArray) : strBin .eql a b = some (.bool (decide (a = b))) := by
 show some (V.bool (eqB a.data.toList b.data.toList)) = _
 rw [eqB_eq]
 congr 2
 by_cases h : a = b
 ·subst h; simp
 ·have : a.data.toList ≠ b.data.toList := fun e => h (by
   obtain ⟨⟨a⟩⟩ := a
   obtain ⟨⟨b⟩⟩ := b
   simp only at e
   rw [e])
  have e2 : (a.data.toList == b.data.toList) = false := beq_eq_false_iff_ne.2 this
  simp only [e2, decide_eq_false h]
end Go.Proofs.Ytmimialblhlklaa
