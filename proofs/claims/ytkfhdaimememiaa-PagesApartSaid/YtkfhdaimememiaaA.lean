/- Tables of pages: where they lie; there, New, spaces, at, set. -/
import Derived.Test.YtkfhdaimememiaaTy
import Derived.Test.YtkfhdaimememiaaIr
import Derived.Test.YtkfhdaimememiaaV4
set_option linter.unusedVariables false
set_option linter.unusedSimpArgs false
set_option linter.unusedSimpArgs false
set_option maxRecDepth 100000
set_option linter.unusedVariables false
set_option linter.unusedSimpArgs false
namespace Go.Proofs.Ytkfhdaimememiaa
open Go Go.Vm
/-- An entry. -/
structure En where
  f : Int
  r : Int
  t : Bool
  w : Bool
deriving DecidableEq
abbrev Ce := Option En
def Ce.f (c : Ce) : Int := match c with | none => 0 | some e => e.f
def Ce.r (c : Ce) : Int := match c with | none => 0 | some e => e.r
def Ce.t (c : Ce) : Bool := match c with | none => false | some e => e.t
def Ce.w (c : Ce) : Bool := match c with | none => false | some e => e.w
/-- What stands behind the pages of the spaces. -/
abbrev Tb := Nat → Nat → Ce
def Tb.upd (T : Tb) (s p : Nat) (c : Ce) : Tb := fun a b => if a = s ∧ b = p then c else T a b
structure CellAt (c : Blk) (o : Nat) (x : Ce) : Prop where
  c0 : c.get o = .bool x.isSome
  c1 : c.get (o + 1) = .int .i64 x.f
  c2 : c.get (o + 2) = .int .i64 x.r
  c3 : c.get (o + 3) = .bool x.t
  c4 : c.get (o + 4) = .bool x.w
def CellsAt (c : Blk) (T : Tb) : Prop := ∀ s p, s < 16 → p < 32 → CellAt c (s * 160 + p * 5) (T s p)
theorem CellsAt.upd {c c' : Blk} {T : Tb} (h : CellsAt c T) {s p : Nat} {x : Ce} (hp : p < 32) (hk : ∀ i, i < 2560 → (i < s * 160 + p * 5 ∨ s * 160 + p * 5 + 5 ≤ i) → c'.get i = c.get i) (hx : CellAt c' (s * 160 + p * 5) x) : CellsAt c' (T.upd s p x) := by
  intro a b ha hb
  by_cases e : a = s ∧ b = p
  · obtain ⟨rfl, rfl⟩ := e
    simp only [Tb.upd, and_self, if_true]; exact hx
  · have o := h a b ha hb
    have hn : a * 160 + b * 5 + 5 ≤ s * 160 + p * 5 ∨ s * 160 + p * 5 + 5 ≤ a * 160 + b * 5 := by omega
    simp only [Tb.upd, if_neg e]
    exact ⟨by rw [hk _ (by omega) (by omega)]; exact o.c0, by rw [hk _ (by omega) (by omega)]; exact o.c1, by rw [hk _ (by omega) (by omega)]; exact o.c2, by rw [hk _ (by omega) (by omega)]; exact o.c3, by rw [hk _ (by omega) (by omega)]; exact o.c4⟩
def okSP (s p : Int) : Prop := (0 ≤ s ∧ s < 16) ∧ 0 ≤ p ∧ p < 32
instance (s p : Int) : Decidable (okSP s p) := by unfold okSP; infer_instance
/-- What the table's map has. -/
def whereV (T : Tb) (k : Int × Int) : Option V := if okSP k.1 k.2 then (T k.1.toNat k.2.toNat).map fun e => .int .i64 e.f else none
structure TabAt (h : Heap) (tb r : Nat) (T : Tb) : Prop where
  t : ∃ c, h.get tb = some (.cells c 64) ∧ c.size = 2561 ∧ c.ro = false ∧ CellsAt c T ∧ c.get 2560 = .map (some r)
  m : ∃ es ck, h.get r = some (.map es ck) ∧ PMap es ck ∧ ∀ k, getP es k = whereV T k
structure RefP (h : Heap) (rd : Nat) (T : Tb) : Prop where
  t : ∃ c, h.get rd = some (.cells c 87) ∧ c.size = 2560 ∧ c.ro = false ∧ CellsAt c T
theorem TabAt.same {h h' : Heap} {tb r : Nat} {T : Tb} (ht : TabAt h tb r T) (hk : ∀ b, b = tb ∨ b = r → h'.get b = h.get b) : TabAt h' tb r T := by
  obtain ⟨⟨c, t1, t2⟩, es, ck, m1, m2⟩ := ht
  exact ⟨⟨c, by rw [hk _ (.inl rfl)]; exact t1, t2⟩, es, ck, by rw [hk _ (.inr rfl)]; exact m1, m2⟩
theorem TabAt.lt {h : Heap} {tb r : Nat} {T : Tb} (ht : TabAt h tb r T) : tb < h.n ∧ r < h.n ∧ tb ≠ r := by
  obtain ⟨⟨c, t1, t2⟩, es, ck, m1, m2⟩ := ht
  exact ⟨Heap.lt_of_get t1, Heap.lt_of_get m1, fun e => by rw [e, m1] at t1; cases t1⟩
theorem TabAt.old {h h' : Heap} {tb r : Nat} {T : Tb} (ht : TabAt h tb r T) (hk : ∀ b, b < h.n → h'.get b = h.get b) : TabAt h' tb r T := ht.same fun b hb => hk b (by have := ht.lt; omega)
theorem RefP.same {h h' : Heap} {rd : Nat} {T : Tb} (hr : RefP h rd T) (hk : h'.get rd = h.get rd) : RefP h' rd T := by
  obtain ⟨c, r1, r2⟩ := hr
  exact ⟨c, by rw [hk]; exact r1, r2⟩
theorem RefP.lt {h : Heap} {rd : Nat} {T : Tb} (hr : RefP h rd T) : rd < h.n := by obtain ⟨c, r1, _⟩ := hr; exact Heap.lt_of_get r1
theorem RefP.old {h h' : Heap} {rd : Nat} {T : Tb} (hr : RefP h rd T) (hk : ∀ b, b < h.n → h'.get b = h.get b) : RefP h' rd T := hr.same (hk _ hr.lt)
/-- Nothing anywhere. -/
def zrow : List V → Bool
  | [] => true
  | .bool false :: .int .i64 0 :: .int .i64 0 :: .bool false :: .bool false :: r => zrow r
  | _ => false
theorem zrow_get : ∀ (n : Nat) (l : List V), zrow l = true → l.length = n * 5 → ∀ i, i < n → l.getD (i * 5) undefV = .bool false ∧ l.getD (i * 5 + 1) undefV = .int .i64 0 ∧ l.getD (i * 5 + 2) undefV = .int .i64 0 ∧ l.getD (i * 5 + 3) undefV = .bool false ∧ l.getD (i * 5 + 4) undefV = .bool false
  | 0, l, h, hl, i, hi => by omega
  | n + 1, l, h, hl, i, hi => by
    unfold zrow at h
    split at h
    · simp at hl
    · rename_i r
      cases i with
      | zero => exact ⟨rfl, rfl, rfl, rfl, rfl⟩
      | succ i =>
        have := zrow_get n r h (by simp at hl; omega) i (by omega)
        rw [show (i + 1) * 5 = i * 5 + 1 + 1 + 1 + 1 + 1 by omega]
        simpa using this
    · cases h
theorem zrow_87 : zrow zc_87 = true := by kernel_rfl
theorem zrow_64 : zrow (zc_64.take 2560) = true := by kernel_rfl
theorem z64_get {i : Nat} (h : i < 2560) : zc_64.getD i undefV = (zc_64.take 2560).getD i undefV := by
  rw [List.getD_eq_getElem?_getD, List.getD_eq_getElem?_getD, List.getElem?_take_of_lt h]
def T0 : Tb := fun _ _ => none
theorem there_ok {h : Heap} {R W : Set'} {tb r : Nat} {T : Tb} (ht : TabAt h tb r T) (hR : R tb) : SF Try.prog 26 [.ptr (some (tb, 0))] h R W fun v h' => v = .bool true ∧ h' = h := by
  obtain ⟨c, t1, t2, t3, t4, t5⟩ := ht.t
  refine SF.go hm Try.func26 ir26_eq ?_
  simp -implicitDefEqProofs (disch := (first | omega | (simp -implicitDefEqProofs only [szs, ne_eq] <;> omega) | fail)) only [go_sem, Nat.reduceAdd, Nat.reduceSub, Nat.reduceMul, Nat.reduceLT, Nat.reduceMod, Nat.reduceDiv, Nat.reduceEqDiff, Nat.reduceBEq, Nat.reduceLeDiff, ↓reduceIte, reduceCtorEq, Int.reduceAdd, Int.reduceSub, Int.reduceLT, Int.reduceLE, Int.reduceBEq, Int.reduceEq, Int.reduceToNat, ir26, t1, t2, t5, hR, undefV]
theorem new_ok {h : Heap} {R W : Set'} : SF Try.prog 21 [] h R W fun v h' => v = .ptr (some (h.n + 1, 0)) ∧ TabAt h' (h.n + 1) h.n T0 ∧ h'.n = h.n + 2 ∧ ∀ b, b < h.n → h'.get b = h.get b := by
  refine SF.go hm Try.func21 ir21_eq ?_
  have hl := zcl_64
  simp -implicitDefEqProofs (disch := (first | omega | (simp -implicitDefEqProofs only [szs, ne_eq] <;> omega) | fail)) only [go_sem, Nat.reduceAdd, Nat.reduceSub, Nat.reduceMul, Nat.reduceLT, Nat.reduceMod, Nat.reduceDiv, Nat.reduceEqDiff, Nat.reduceBEq, Nat.reduceLeDiff, ↓reduceIte, reduceCtorEq, Int.reduceAdd, Int.reduceSub, Int.reduceLT, Int.reduceLE, Int.reduceBEq, Int.reduceEq, Int.reduceToNat, ir21, hl]
  have hg : ∀ i, i < 2561 → (Blk.of (zc_64.set 2560 (V.map (some h.n)))).get i = (zc_64.set 2560 (V.map (some h.n))).getD i undefV := fun i hi => w_of_get (by simp [hl]; exact hi)
  have hz : ∀ i, i < 2560 → (Blk.of (zc_64.set 2560 (V.map (some h.n)))).get i = (zc_64.take 2560).getD i undefV := fun i hi => by
    rw [hg i (by omega), ← z64_get hi, List.getD_eq_getElem?_getD, List.getElem?_set_ne (by omega), ← List.getD_eq_getElem?_getD]
  refine ⟨⟨⟨_, w_push_eq (by simp) _, by rw [w_of_size, List.length_set]; exact hl, rfl, fun s p hs hp => ?_, ?_⟩, [], 0, by simp -implicitDefEqProofs (disch := (first | omega | (simp -implicitDefEqProofs only [szs, ne_eq] <;> omega) | fail)) only [go_sem, Nat.reduceAdd, Nat.reduceSub, Nat.reduceMul, Nat.reduceLT, Nat.reduceMod, Nat.reduceDiv, Nat.reduceEqDiff, Nat.reduceBEq, Nat.reduceLeDiff, ↓reduceIte, reduceCtorEq, Int.reduceAdd, Int.reduceSub, Int.reduceLT, Int.reduceLE, Int.reduceBEq, Int.reduceEq, Int.reduceToNat], PMap.nil, fun k => ?_⟩, fun b hb => by simp -implicitDefEqProofs (disch := (first | omega | (simp -implicitDefEqProofs only [szs, ne_eq] <;> omega) | fail)) only [go_sem, Nat.reduceAdd, Nat.reduceSub, Nat.reduceMul, Nat.reduceLT, Nat.reduceMod, Nat.reduceDiv, Nat.reduceEqDiff, Nat.reduceBEq, Nat.reduceLeDiff, ↓reduceIte, reduceCtorEq, Int.reduceAdd, Int.reduceSub, Int.reduceLT, Int.reduceLE, Int.reduceBEq, Int.reduceEq, Int.reduceToNat]⟩
  · have hr := zrow_get 512 (zc_64.take 2560) zrow_64 (by simp [hl]) (s * 32 + p) (by omega)
    have e : (s * 32 + p) * 5 = s * 160 + p * 5 := by omega
    rw [e] at hr
    exact ⟨by rw [hz _ (by omega)]; exact hr.1, by rw [hz _ (by omega)]; exact hr.2.1, by rw [hz _ (by omega)]; exact hr.2.2.1, by rw [hz _ (by omega)]; exact hr.2.2.2.1, by rw [hz _ (by omega)]; exact hr.2.2.2.2⟩
  · rw [hg _ (by omega), List.getD_eq_getElem?_getD, List.getElem?_set_self (by rw [hl]; omega)]; rfl
  · unfold whereV T0
    split <;> rfl
theorem rnew_ok {h : Heap} {R W : Set'} : SF Try.prog 12 [] h R W fun v h' => v = .ptr (some (h.n, 0)) ∧ RefP h' h.n T0 ∧ h'.n = h.n + 1 ∧ ∀ b, b < h.n → h'.get b = h.get b := by
  refine SF.go hm Try.func12 ir12_eq ?_
  have hl := zcl_87
  simp -implicitDefEqProofs (disch := (first | omega | (simp -implicitDefEqProofs only [szs, ne_eq] <;> omega) | fail)) only [go_sem, Nat.reduceAdd, Nat.reduceSub, Nat.reduceMul, Nat.reduceLT, Nat.reduceMod, Nat.reduceDiv, Nat.reduceEqDiff, Nat.reduceBEq, Nat.reduceLeDiff, ↓reduceIte, reduceCtorEq, Int.reduceAdd, Int.reduceSub, Int.reduceLT, Int.reduceLE, Int.reduceBEq, Int.reduceEq, Int.reduceToNat, ir12, hl]
  refine ⟨⟨_, w_push_eq rfl _, by rw [w_of_size]; exact hl, rfl, fun s p hs hp => ?_⟩, fun b hb => by simp -implicitDefEqProofs (disch := (first | omega | (simp -implicitDefEqProofs only [szs, ne_eq] <;> omega) | fail)) only [go_sem, Nat.reduceAdd, Nat.reduceSub, Nat.reduceMul, Nat.reduceLT, Nat.reduceMod, Nat.reduceDiv, Nat.reduceEqDiff, Nat.reduceBEq, Nat.reduceLeDiff, ↓reduceIte, reduceCtorEq, Int.reduceAdd, Int.reduceSub, Int.reduceLT, Int.reduceLE, Int.reduceBEq, Int.reduceEq, Int.reduceToNat]⟩
  have hr := zrow_get 512 zc_87 zrow_87 hl (s * 32 + p) (by omega)
  have e : (s * 32 + p) * 5 = s * 160 + p * 5 := by omega
  rw [e] at hr
  have hg : ∀ i, i < 2560 → (Blk.of zc_87).get i = zc_87.getD i undefV := fun i hi => w_of_get (by rw [hl]; exact hi)
  exact ⟨by rw [hg _ (by omega)]; exact hr.1, by rw [hg _ (by omega)]; exact hr.2.1, by rw [hg _ (by omega)]; exact hr.2.2.1, by rw [hg _ (by omega)]; exact hr.2.2.2.1, by rw [hg _ (by omega)]; exact hr.2.2.2.2⟩
def okS (s : Int) : Prop := 0 ≤ s ∧ s < 16
instance (s : Int) : Decidable (okS s) := by unfold okS; infer_instance
theorem bad_ok {h : Heap} {R W : Set'} (s : Int) : SF Try.prog 54 [.int .i64 s] h R W fun v h' => v = .bool (decide (¬ okS s)) ∧ h' = h := by
  refine SF.go hm Try.func54 ir54_eq ?_
  by_cases h0 : s < 0
  · simp -implicitDefEqProofs (disch := (first | omega | (simp -implicitDefEqProofs only [szs, ne_eq] <;> omega) | fail)) only [go_sem, Nat.reduceAdd, Nat.reduceSub, Nat.reduceMul, Nat.reduceLT, Nat.reduceMod, Nat.reduceDiv, Nat.reduceEqDiff, Nat.reduceBEq, Nat.reduceLeDiff, ↓reduceIte, reduceCtorEq, Int.reduceAdd, Int.reduceSub, Int.reduceLT, Int.reduceLE, Int.reduceBEq, Int.reduceEq, Int.reduceToNat, ir54, undefV]
    congr 1
    exact (decide_eq_true (by unfold okS; omega)).symm
  · simp -implicitDefEqProofs (disch := (first | omega | (simp -implicitDefEqProofs only [szs, ne_eq] <;> omega) | fail)) only [go_sem, Nat.reduceAdd, Nat.reduceSub, Nat.reduceMul, Nat.reduceLT, Nat.reduceMod, Nat.reduceDiv, Nat.reduceEqDiff, Nat.reduceBEq, Nat.reduceLeDiff, ↓reduceIte, reduceCtorEq, Int.reduceAdd, Int.reduceSub, Int.reduceLT, Int.reduceLE, Int.reduceBEq, Int.reduceEq, Int.reduceToNat, ir54, undefV]
    congr 1
    exact decide_eq_decide.2 (by unfold okS; omega)
theorem index_ok {h : Heap} {R W S : Set'} {v : V} {zs : List Int} (hv : LR h S v (zs.map (.int .i64))) (hS : ∀ b, S b → R b) (hlen : zs.length ≤ 1000) :
    SF Try.prog 58 [v, .func 54 [] []] h R W fun w h' => (∃ k : Int, w = .int .i64 k ∧ (0 ≤ k ↔ ¬ ∀ z ∈ zs, okS z)) ∧ h' = h := by
  have hl := hv.lenV Try.underlying76
  rw [List.length_map] at hl
  refine SF.go hm Try.func58 ir58_eq ?_
  simp -implicitDefEqProofs (disch := (first | omega | (simp -implicitDefEqProofs only [szs, ne_eq] <;> omega) | fail)) only [go_sem, Nat.reduceAdd, Nat.reduceSub, Nat.reduceMul, Nat.reduceLT, Nat.reduceMod, Nat.reduceDiv, Nat.reduceEqDiff, Nat.reduceBEq, Nat.reduceLeDiff, ↓reduceIte, reduceCtorEq, Int.reduceAdd, Int.reduceSub, Int.reduceLT, Int.reduceLE, Int.reduceBEq, Int.reduceEq, Int.reduceToNat, ir58, ↓hl]
  refine GLoop.inv hm (fun k f g => f.mks = [] ∧ f.tm.n = 19 ∧ f.tm.get 0 = some v ∧ f.tm.get 1 = some (.func 54 [] []) ∧ f.tm.get 7 = some (.int .i64 zs.length) ∧ g = h ∧ ∃ p : Nat, p + k = zs.length ∧ f.tm.get 8 = some (.int .i64 p) ∧ ∀ z ∈ zs.take p, okS z) zs.length ?_ ?_
  · exact ⟨rfl, rfl, by simp -implicitDefEqProofs (disch := (first | omega | (simp -implicitDefEqProofs only [szs, ne_eq] <;> omega) | fail)) only [go_sem, Nat.reduceAdd, Nat.reduceSub, Nat.reduceMul, Nat.reduceLT, Nat.reduceMod, Nat.reduceDiv, Nat.reduceEqDiff, Nat.reduceBEq, Nat.reduceLeDiff, ↓reduceIte, reduceCtorEq, Int.reduceAdd, Int.reduceSub, Int.reduceLT, Int.reduceLE, Int.reduceBEq, Int.reduceEq, Int.reduceToNat], by simp -implicitDefEqProofs (disch := (first | omega | (simp -implicitDefEqProofs only [szs, ne_eq] <;> omega) | fail)) only [go_sem, Nat.reduceAdd, Nat.reduceSub, Nat.reduceMul, Nat.reduceLT, Nat.reduceMod, Nat.reduceDiv, Nat.reduceEqDiff, Nat.reduceBEq, Nat.reduceLeDiff, ↓reduceIte, reduceCtorEq, Int.reduceAdd, Int.reduceSub, Int.reduceLT, Int.reduceLE, Int.reduceBEq, Int.reduceEq, Int.reduceToNat], by simp -implicitDefEqProofs (disch := (first | omega | (simp -implicitDefEqProofs only [szs, ne_eq] <;> omega) | fail)) only [go_sem, Nat.reduceAdd, Nat.reduceSub, Nat.reduceMul, Nat.reduceLT, Nat.reduceMod, Nat.reduceDiv, Nat.reduceEqDiff, Nat.reduceBEq, Nat.reduceLeDiff, ↓reduceIte, reduceCtorEq, Int.reduceAdd, Int.reduceSub, Int.reduceLT, Int.reduceLE, Int.reduceBEq, Int.reduceEq, Int.reduceToNat], rfl, 0, by omega, by simp -implicitDefEqProofs (disch := (first | omega | (simp -implicitDefEqProofs only [szs, ne_eq] <;> omega) | fail)) only [go_sem, Nat.reduceAdd, Nat.reduceSub, Nat.reduceMul, Nat.reduceLT, Nat.reduceMod, Nat.reduceDiv, Nat.reduceEqDiff, Nat.reduceBEq, Nat.reduceLeDiff, ↓reduceIte, reduceCtorEq, Int.reduceAdd, Int.reduceSub, Int.reduceLT, Int.reduceLE, Int.reduceBEq, Int.reduceEq, Int.reduceToNat]; rfl, fun z hz => by simp at hz⟩
  rintro k ⟨⟨n', tr⟩, mks⟩ g ⟨hmk, hn', t0, u1, t7, rfl, p, hpk, t8, hok⟩
  simp only [Tm.get_mk] at hmk hn' t0 u1 t7 t8
  subst hmk hn'
  by_cases hp : p < zs.length
  · obtain ⟨bi, oi, capi, exi, ci, cei, rfl, hbi, i1, i2, i3⟩ := hv.get (i := p) (by simpa using hp)
    rw [List.length_map] at i2 hl t0
    have hRb := hS bi hbi
    have i3' : ci.get (oi + p) = .int .i64 zs[p] := by rw [i3]; simp [List.getD, hp]
    simp -implicitDefEqProofs (disch := (first | omega | (simp -implicitDefEqProofs only [szs, ne_eq] <;> omega) | fail)) only [go_sem, Nat.reduceAdd, Nat.reduceSub, Nat.reduceMul, Nat.reduceLT, Nat.reduceMod, Nat.reduceDiv, Nat.reduceEqDiff, Nat.reduceBEq, Nat.reduceLeDiff, ↓reduceIte, reduceCtorEq, Int.reduceAdd, Int.reduceSub, Int.reduceLT, Int.reduceLE, Int.reduceBEq, Int.reduceEq, Int.reduceToNat, ir58_l0, t0, u1, t7, t8, hRb, i1, i2, i3']
    refine GCall.of (bad_ok zs[p]) ?_
    rintro w g' ⟨rfl, rfl⟩
    by_cases hz : okS zs[p]
    · have e : decide (¬ okS zs[p]) = false := by simp [hz]
      rw [e]
      simp -implicitDefEqProofs (disch := (first | omega | (simp -implicitDefEqProofs only [szs, ne_eq] <;> omega) | fail)) only [go_sem, Nat.reduceAdd, Nat.reduceSub, Nat.reduceMul, Nat.reduceLT, Nat.reduceMod, Nat.reduceDiv, Nat.reduceEqDiff, Nat.reduceBEq, Nat.reduceLeDiff, ↓reduceIte, reduceCtorEq, Int.reduceAdd, Int.reduceSub, Int.reduceLT, Int.reduceLE, Int.reduceBEq, Int.reduceEq, Int.reduceToNat, t0, u1, t7, t8]
      refine ⟨k - 1, by omega, by rw [List.length_map], p + 1, by omega, by simp, fun z hz' => ?_⟩
      rw [List.take_add_one, List.getElem?_eq_getElem hp] at hz'
      rcases List.mem_append.1 hz' with h1 | h1
      · exact hok z h1
      · simp at h1; rw [h1]; exact hz
    · have e : decide (¬ okS zs[p]) = true := by simp [hz]
      rw [e]
      simp -implicitDefEqProofs (disch := (first | omega | (simp -implicitDefEqProofs only [szs, ne_eq] <;> omega) | fail)) only [go_sem, Nat.reduceAdd, Nat.reduceSub, Nat.reduceMul, Nat.reduceLT, Nat.reduceMod, Nat.reduceDiv, Nat.reduceEqDiff, Nat.reduceBEq, Nat.reduceLeDiff, ↓reduceIte, reduceCtorEq, Int.reduceAdd, Int.reduceSub, Int.reduceLT, Int.reduceLE, Int.reduceBEq, Int.reduceEq, Int.reduceToNat, t0, u1, t7, t8]
      exact ⟨p, rfl, fun _ h => hz (h _ (List.getElem_mem hp)), fun _ => by omega⟩
  · obtain rfl : p = zs.length := by omega
    rw [List.take_length] at hok
    simp -implicitDefEqProofs (disch := (first | omega | (simp -implicitDefEqProofs only [szs, ne_eq] <;> omega) | fail)) only [go_sem, Nat.reduceAdd, Nat.reduceSub, Nat.reduceMul, Nat.reduceLT, Nat.reduceMod, Nat.reduceDiv, Nat.reduceEqDiff, Nat.reduceBEq, Nat.reduceLeDiff, ↓reduceIte, reduceCtorEq, Int.reduceAdd, Int.reduceSub, Int.reduceLT, Int.reduceLE, Int.reduceBEq, Int.reduceEq, Int.reduceToNat, ir58_l0, t0, u1, t7, t8]
    exact ⟨-1, rfl, fun h => by omega, fun h => absurd hok h⟩
theorem contains_ok {h : Heap} {R W S : Set'} {v : V} {zs : List Int} (hv : LR h S v (zs.map (.int .i64))) (hS : ∀ b, S b → R b) (hlen : zs.length ≤ 1000) :
    SF Try.prog 53 [v, .func 54 [] []] h R W fun w h' => w = .bool (decide (¬ ∀ z ∈ zs, okS z)) ∧ h' = h := by
  refine SF.go hm Try.func53 ir53_eq ?_
  simp -implicitDefEqProofs (disch := (first | omega | (simp -implicitDefEqProofs only [szs, ne_eq] <;> omega) | fail)) only [go_sem, Nat.reduceAdd, Nat.reduceSub, Nat.reduceMul, Nat.reduceLT, Nat.reduceMod, Nat.reduceDiv, Nat.reduceEqDiff, Nat.reduceBEq, Nat.reduceLeDiff, ↓reduceIte, reduceCtorEq, Int.reduceAdd, Int.reduceSub, Int.reduceLT, Int.reduceLE, Int.reduceBEq, Int.reduceEq, Int.reduceToNat, ir53]
  refine GCall.of (index_ok hv (fun b hb => .inr (hS b hb)) hlen) ?_
  rintro w g ⟨⟨k, rfl, hk⟩, rfl⟩
  simp -implicitDefEqProofs (disch := (first | omega | (simp -implicitDefEqProofs only [szs, ne_eq] <;> omega) | fail)) only [go_sem, Nat.reduceAdd, Nat.reduceSub, Nat.reduceMul, Nat.reduceLT, Nat.reduceMod, Nat.reduceDiv, Nat.reduceEqDiff, Nat.reduceBEq, Nat.reduceLeDiff, ↓reduceIte, reduceCtorEq, Int.reduceAdd, Int.reduceSub, Int.reduceLT, Int.reduceLE, Int.reduceBEq, Int.reduceEq, Int.reduceToNat]
  congr 1
  exact decide_eq_decide.2 hk
theorem spaces_ok {h : Heap} {R W S : Set'} {v : V} {zs : List Int} (hv : LR h S v (zs.map (.int .i64))) (hS : ∀ b, S b → R b) (hlen : zs.length ≤ 1000) :
    SF Try.prog 40 [v] h R W fun w h' => w = .bool (decide (∀ z ∈ zs, okS z)) ∧ h' = h := by
  refine SF.go hm Try.func40 ir40_eq ?_
  simp -implicitDefEqProofs (disch := (first | omega | (simp -implicitDefEqProofs only [szs, ne_eq] <;> omega) | fail)) only [go_sem, Nat.reduceAdd, Nat.reduceSub, Nat.reduceMul, Nat.reduceLT, Nat.reduceMod, Nat.reduceDiv, Nat.reduceEqDiff, Nat.reduceBEq, Nat.reduceLeDiff, ↓reduceIte, reduceCtorEq, Int.reduceAdd, Int.reduceSub, Int.reduceLT, Int.reduceLE, Int.reduceBEq, Int.reduceEq, Int.reduceToNat, ir40]
  refine GCall.of (contains_ok hv (fun b hb => .inr (hS b hb)) hlen) ?_
  rintro w g ⟨rfl, rfl⟩
  by_cases hx : ∀ z ∈ zs, okS z
  · rw [decide_eq_true hx, decide_eq_false (fun h => h hx)]
    simp -implicitDefEqProofs (disch := (first | omega | (simp -implicitDefEqProofs only [szs, ne_eq] <;> omega) | fail)) only [go_sem, Nat.reduceAdd, Nat.reduceSub, Nat.reduceMul, Nat.reduceLT, Nat.reduceMod, Nat.reduceDiv, Nat.reduceEqDiff, Nat.reduceBEq, Nat.reduceLeDiff, ↓reduceIte, reduceCtorEq, Int.reduceAdd, Int.reduceSub, Int.reduceLT, Int.reduceLE, Int.reduceBEq, Int.reduceEq, Int.reduceToNat]
  · rw [decide_eq_false hx, decide_eq_true hx]
    simp -implicitDefEqProofs (disch := (first | omega | (simp -implicitDefEqProofs only [szs, ne_eq] <;> omega) | fail)) only [go_sem, Nat.reduceAdd, Nat.reduceSub, Nat.reduceMul, Nat.reduceLT, Nat.reduceMod, Nat.reduceDiv, Nat.reduceEqDiff, Nat.reduceBEq, Nat.reduceLeDiff, ↓reduceIte, reduceCtorEq, Int.reduceAdd, Int.reduceSub, Int.reduceLT, Int.reduceLE, Int.reduceBEq, Int.reduceEq, Int.reduceToNat]
theorem lr_one (h : Heap) (s : Int) : LR (h.push (.cells (Blk.of [.int .i64 s]) 3)) (fun b => b = h.n) (.slice (some (h.n, 0)) 1 1 true) ([s].map (.int .i64)) := .inr ⟨h.n, 0, 1, true, _, 3, rfl, rfl, w_push_eq rfl _, Nat.le_refl _, rfl⟩
theorem lr_two (h : Heap) (s t : Int) : LR (h.push (.cells (Blk.of [.int .i64 s, .int .i64 t]) 3)) (fun b => b = h.n) (.slice (some (h.n, 0)) 2 2 true) ([s, t].map (.int .i64)) := .inr ⟨h.n, 0, 2, true, _, 3, rfl, rfl, w_push_eq rfl _, Nat.le_refl _, rfl⟩
theorem space1_ok {h : Heap} {R W : Set'} (s : Int) (hR : R h.n) : SF Try.prog 40 [.slice (some (h.n, 0)) 1 1 true] (h.push (.cells (Blk.of [.int .i64 s]) 3)) R W fun w h' => w = .bool (decide (okS s)) ∧ h' = h.push (.cells (Blk.of [.int .i64 s]) 3) :=
  SF.mono (spaces_ok (lr_one h s) (fun b hb => by rw [hb]; exact hR) (by simp)) fun v h' ⟨h1, h2⟩ => ⟨by rw [h1]; simp, h2⟩
theorem space2_ok {h : Heap} {R W : Set'} (s t : Int) (hR : R h.n) : SF Try.prog 40 [.slice (some (h.n, 0)) 2 2 true] (h.push (.cells (Blk.of [.int .i64 s, .int .i64 t]) 3)) R W fun w h' => w = .bool (decide (okS s ∧ okS t)) ∧ h' = h.push (.cells (Blk.of [.int .i64 s, .int .i64 t]) 3) :=
  SF.mono (spaces_ok (lr_two h s t) (fun b hb => by rw [hb]; exact hR) (by simp)) fun v h' ⟨h1, h2⟩ => ⟨by rw [h1]; simp, h2⟩
/-- May a page be asked for, with these rights? -/
def okAt (s p r : Int) : Prop := okSP s p ∧ 0 ≤ r ∧ r ≤ 7
instance (s p r : Int) : Decidable (okAt s p r) := by unfold okAt; infer_instance
theorem at_ok {h : Heap} {R W : Set'} {tb r : Nat} {T : Tb} (ht : TabAt h tb r T) (hR : R tb) (s p rt : Int) :
    SF Try.prog 48 [.ptr (some (tb, 0)), .int .i64 s, .int .i64 p, .int .i64 rt] h R W fun v h' => v = .tuple [if okAt s p rt then .ptr (some (tb, s.toNat * 160 + p.toNat * 5)) else .ptr none, .int .i64 (if okAt s p rt then 0 else 2)] ∧ h.n ≤ h'.n ∧ ∀ b, b < h.n → h'.get b = h.get b := by
  obtain ⟨c, t1, t2, t3, t4, t5⟩ := ht.t
  refine SF.go hm Try.func48 ir48_eq ?_
  simp -implicitDefEqProofs (disch := (first | omega | (simp -implicitDefEqProofs only [szs, ne_eq] <;> omega) | fail)) only [go_sem, Nat.reduceAdd, Nat.reduceSub, Nat.reduceMul, Nat.reduceLT, Nat.reduceMod, Nat.reduceDiv, Nat.reduceEqDiff, Nat.reduceBEq, Nat.reduceLeDiff, ↓reduceIte, reduceCtorEq, Int.reduceAdd, Int.reduceSub, Int.reduceLT, Int.reduceLE, Int.reduceBEq, Int.reduceEq, Int.reduceToNat, ir48]
  refine GCall.of (there_ok ht (.inr hR)) ?_
  rintro v h1 ⟨rfl, rfl⟩
  simp -implicitDefEqProofs (disch := (first | omega | (simp -implicitDefEqProofs only [szs, ne_eq] <;> omega) | fail)) only [go_sem, Nat.reduceAdd, Nat.reduceSub, Nat.reduceMul, Nat.reduceLT, Nat.reduceMod, Nat.reduceDiv, Nat.reduceEqDiff, Nat.reduceBEq, Nat.reduceLeDiff, ↓reduceIte, reduceCtorEq, Int.reduceAdd, Int.reduceSub, Int.reduceLT, Int.reduceLE, Int.reduceBEq, Int.reduceEq, Int.reduceToNat, undefV]
  refine GCall.of (space1_ok s (.inl (Nat.le_refl _))) ?_
  rintro v h2 ⟨rfl, rfl⟩
  by_cases hs : okS s
  · rw [decide_eq_true hs]
    have hs' := hs
    unfold okS at hs'
    by_cases hp0 : p < 0
    · rw [if_neg (fun h => by have := h.1.2.1; omega), if_neg (fun h => by have := h.1.2.1; omega)]
      simp -implicitDefEqProofs (disch := (first | omega | (simp -implicitDefEqProofs only [szs, ne_eq] <;> omega) | fail)) only [go_sem, Nat.reduceAdd, Nat.reduceSub, Nat.reduceMul, Nat.reduceLT, Nat.reduceMod, Nat.reduceDiv, Nat.reduceEqDiff, Nat.reduceBEq, Nat.reduceLeDiff, ↓reduceIte, reduceCtorEq, Int.reduceAdd, Int.reduceSub, Int.reduceLT, Int.reduceLE, Int.reduceBEq, Int.reduceEq, Int.reduceToNat, undefV]
      exact fun b hb => by simp -implicitDefEqProofs (disch := (first | omega | (simp -implicitDefEqProofs only [szs, ne_eq] <;> omega) | fail)) only [go_sem, Nat.reduceAdd, Nat.reduceSub, Nat.reduceMul, Nat.reduceLT, Nat.reduceMod, Nat.reduceDiv, Nat.reduceEqDiff, Nat.reduceBEq, Nat.reduceLeDiff, ↓reduceIte, reduceCtorEq, Int.reduceAdd, Int.reduceSub, Int.reduceLT, Int.reduceLE, Int.reduceBEq, Int.reduceEq, Int.reduceToNat]
    by_cases hp1 : 32 ≤ p
    · rw [if_neg (fun h => by have := h.1.2.2; omega), if_neg (fun h => by have := h.1.2.2; omega)]
      simp -implicitDefEqProofs (disch := (first | omega | (simp -implicitDefEqProofs only [szs, ne_eq] <;> omega) | fail)) only [go_sem, Nat.reduceAdd, Nat.reduceSub, Nat.reduceMul, Nat.reduceLT, Nat.reduceMod, Nat.reduceDiv, Nat.reduceEqDiff, Nat.reduceBEq, Nat.reduceLeDiff, ↓reduceIte, reduceCtorEq, Int.reduceAdd, Int.reduceSub, Int.reduceLT, Int.reduceLE, Int.reduceBEq, Int.reduceEq, Int.reduceToNat, undefV]
      exact fun b hb => by simp -implicitDefEqProofs (disch := (first | omega | (simp -implicitDefEqProofs only [szs, ne_eq] <;> omega) | fail)) only [go_sem, Nat.reduceAdd, Nat.reduceSub, Nat.reduceMul, Nat.reduceLT, Nat.reduceMod, Nat.reduceDiv, Nat.reduceEqDiff, Nat.reduceBEq, Nat.reduceLeDiff, ↓reduceIte, reduceCtorEq, Int.reduceAdd, Int.reduceSub, Int.reduceLT, Int.reduceLE, Int.reduceBEq, Int.reduceEq, Int.reduceToNat]
    by_cases hr0 : rt < 0
    · rw [if_neg (fun h => by have := h.2.1; omega), if_neg (fun h => by have := h.2.1; omega)]
      simp -implicitDefEqProofs (disch := (first | omega | (simp -implicitDefEqProofs only [szs, ne_eq] <;> omega) | fail)) only [go_sem, Nat.reduceAdd, Nat.reduceSub, Nat.reduceMul, Nat.reduceLT, Nat.reduceMod, Nat.reduceDiv, Nat.reduceEqDiff, Nat.reduceBEq, Nat.reduceLeDiff, ↓reduceIte, reduceCtorEq, Int.reduceAdd, Int.reduceSub, Int.reduceLT, Int.reduceLE, Int.reduceBEq, Int.reduceEq, Int.reduceToNat, undefV]
      exact fun b hb => by simp -implicitDefEqProofs (disch := (first | omega | (simp -implicitDefEqProofs only [szs, ne_eq] <;> omega) | fail)) only [go_sem, Nat.reduceAdd, Nat.reduceSub, Nat.reduceMul, Nat.reduceLT, Nat.reduceMod, Nat.reduceDiv, Nat.reduceEqDiff, Nat.reduceBEq, Nat.reduceLeDiff, ↓reduceIte, reduceCtorEq, Int.reduceAdd, Int.reduceSub, Int.reduceLT, Int.reduceLE, Int.reduceBEq, Int.reduceEq, Int.reduceToNat]
    by_cases hr1 : 7 < rt
    · rw [if_neg (fun h => by have := h.2.2; omega), if_neg (fun h => by have := h.2.2; omega)]
      simp -implicitDefEqProofs (disch := (first | omega | (simp -implicitDefEqProofs only [szs, ne_eq] <;> omega) | fail)) only [go_sem, Nat.reduceAdd, Nat.reduceSub, Nat.reduceMul, Nat.reduceLT, Nat.reduceMod, Nat.reduceDiv, Nat.reduceEqDiff, Nat.reduceBEq, Nat.reduceLeDiff, ↓reduceIte, reduceCtorEq, Int.reduceAdd, Int.reduceSub, Int.reduceLT, Int.reduceLE, Int.reduceBEq, Int.reduceEq, Int.reduceToNat, undefV]
      exact fun b hb => by simp -implicitDefEqProofs (disch := (first | omega | (simp -implicitDefEqProofs only [szs, ne_eq] <;> omega) | fail)) only [go_sem, Nat.reduceAdd, Nat.reduceSub, Nat.reduceMul, Nat.reduceLT, Nat.reduceMod, Nat.reduceDiv, Nat.reduceEqDiff, Nat.reduceBEq, Nat.reduceLeDiff, ↓reduceIte, reduceCtorEq, Int.reduceAdd, Int.reduceSub, Int.reduceLT, Int.reduceLE, Int.reduceBEq, Int.reduceEq, Int.reduceToNat]
    have hok : okAt s p rt := ⟨⟨hs', by omega, by omega⟩, by omega, by omega⟩
    rw [if_pos hok, if_pos hok]
    obtain ⟨a, rfl⟩ : ∃ a : Nat, s = a := ⟨s.toNat, by omega⟩
    obtain ⟨q, rfl⟩ : ∃ a : Nat, p = a := ⟨p.toNat, by omega⟩
    have l1 : (a : Int) < ((16 : Nat) : Int) := by omega
    have l2 : (q : Int) < ((32 : Nat) : Int) := by omega
    have l3 : (0 : Int) ≤ (a : Int) := by omega
    have l4 : (0 : Int) ≤ (q : Int) := by omega
    simp -implicitDefEqProofs (disch := (first | omega | (simp -implicitDefEqProofs only [szs, ne_eq] <;> omega) | fail)) only [go_sem, Nat.reduceAdd, Nat.reduceSub, Nat.reduceMul, Nat.reduceLT, Nat.reduceMod, Nat.reduceDiv, Nat.reduceEqDiff, Nat.reduceBEq, Nat.reduceLeDiff, ↓reduceIte, reduceCtorEq, Int.reduceAdd, Int.reduceSub, Int.reduceLT, Int.reduceLE, Int.reduceBEq, Int.reduceEq, Int.reduceToNat, undefV, l1, l2, l3, l4]
    exact fun b hb => by simp -implicitDefEqProofs (disch := (first | omega | (simp -implicitDefEqProofs only [szs, ne_eq] <;> omega) | fail)) only [go_sem, Nat.reduceAdd, Nat.reduceSub, Nat.reduceMul, Nat.reduceLT, Nat.reduceMod, Nat.reduceDiv, Nat.reduceEqDiff, Nat.reduceBEq, Nat.reduceLeDiff, ↓reduceIte, reduceCtorEq, Int.reduceAdd, Int.reduceSub, Int.reduceLT, Int.reduceLE, Int.reduceBEq, Int.reduceEq, Int.reduceToNat]
  · rw [decide_eq_false hs]
    rw [if_neg (fun h => hs h.1.1), if_neg (fun h => hs h.1.1)]
    simp -implicitDefEqProofs (disch := (first | omega | (simp -implicitDefEqProofs only [szs, ne_eq] <;> omega) | fail)) only [go_sem, Nat.reduceAdd, Nat.reduceSub, Nat.reduceMul, Nat.reduceLT, Nat.reduceMod, Nat.reduceDiv, Nat.reduceEqDiff, Nat.reduceBEq, Nat.reduceLeDiff, ↓reduceIte, reduceCtorEq, Int.reduceAdd, Int.reduceSub, Int.reduceLT, Int.reduceLE, Int.reduceBEq, Int.reduceEq, Int.reduceToNat, undefV]
    exact fun b hb => by simp -implicitDefEqProofs (disch := (first | omega | (simp -implicitDefEqProofs only [szs, ne_eq] <;> omega) | fail)) only [go_sem, Nat.reduceAdd, Nat.reduceSub, Nat.reduceMul, Nat.reduceLT, Nat.reduceMod, Nat.reduceDiv, Nat.reduceEqDiff, Nat.reduceBEq, Nat.reduceLeDiff, ↓reduceIte, reduceCtorEq, Int.reduceAdd, Int.reduceSub, Int.reduceLT, Int.reduceLE, Int.reduceBEq, Int.reduceEq, Int.reduceToNat]
theorem CellsAt.at {c : Blk} {T : Tb} (h : CellsAt c T) {s p rt : Int} (hok : okAt s p rt) : CellAt c (s.toNat * 160 + p.toNat * 5) (T s.toNat p.toNat) := by
  unfold okAt okSP at hok
  exact h _ _ (by omega) (by omega)
def setE (T : Tb) (s p rt : Int) : Int := if okAt s p rt then (if (T s.toNat p.toNat).isSome then 0 else 6) else 2
def setP (T : Tb) (tb : Nat) (s p rt : Int) : V := if okAt s p rt ∧ (T s.toNat p.toNat).isSome then .ptr (some (tb, s.toNat * 160 + p.toNat * 5)) else .ptr none
theorem set_ok {h : Heap} {R W : Set'} {tb r : Nat} {T : Tb} (ht : TabAt h tb r T) (hR : R tb) (s p rt : Int) :
    SF Try.prog 39 [.ptr (some (tb, 0)), .int .i64 s, .int .i64 p, .int .i64 rt] h R W fun v h' => v = .tuple [setP T tb s p rt, .int .i64 (setE T s p rt)] ∧ h.n ≤ h'.n ∧ ∀ b, b < h.n → h'.get b = h.get b := by
  obtain ⟨c, t1, t2, t3, t4, t5⟩ := ht.t
  have hlt := ht.lt
  refine SF.go hm Try.func39 ir39_eq ?_
  simp -implicitDefEqProofs (disch := (first | omega | (simp -implicitDefEqProofs only [szs, ne_eq] <;> omega) | fail)) only [go_sem, Nat.reduceAdd, Nat.reduceSub, Nat.reduceMul, Nat.reduceLT, Nat.reduceMod, Nat.reduceDiv, Nat.reduceEqDiff, Nat.reduceBEq, Nat.reduceLeDiff, ↓reduceIte, reduceCtorEq, Int.reduceAdd, Int.reduceSub, Int.reduceLT, Int.reduceLE, Int.reduceBEq, Int.reduceEq, Int.reduceToNat, ir39]
  refine GCall.of (at_ok ht (.inr hR) s p rt) ?_
  rintro v h1 ⟨rfl, n1, k1⟩
  have t1' := (k1 tb (by omega)).trans t1
  by_cases hok : okAt s p rt
  · have hc := t4.at hok
    have hs : s.toNat * 160 + p.toNat * 5 < 2561 := by have h := hok; unfold okAt okSP at h; omega
    obtain ⟨c0, c1, c2, c3, c4⟩ := hc
    generalize hx : T s.toNat p.toNat = x at *
    rw [if_pos hok, if_pos hok]
    cases x with
    | none =>
      have e1 : setP T tb s p rt = .ptr none := if_neg (fun h => by rw [hx] at h; cases h.2)
      have e2 : setE T s p rt = 6 := by rw [setE, if_pos hok, hx]; rfl
      rw [e1, e2]
      simp only [Option.isSome_none] at c0
      simp -implicitDefEqProofs (disch := (first | omega | (simp -implicitDefEqProofs only [szs, ne_eq] <;> omega) | fail)) only [go_sem, Nat.reduceAdd, Nat.reduceSub, Nat.reduceMul, Nat.reduceLT, Nat.reduceMod, Nat.reduceDiv, Nat.reduceEqDiff, Nat.reduceBEq, Nat.reduceLeDiff, ↓reduceIte, reduceCtorEq, Int.reduceAdd, Int.reduceSub, Int.reduceLT, Int.reduceLE, Int.reduceBEq, Int.reduceEq, Int.reduceToNat, undefV, t1', t2, c0, hR]
      exact ⟨n1, k1⟩
    | some e =>
      have e1 : setP T tb s p rt = .ptr (some (tb, s.toNat * 160 + p.toNat * 5)) := if_pos ⟨hok, by rw [hx]; rfl⟩
      have e2 : setE T s p rt = 0 := by rw [setE, if_pos hok, hx]; rfl
      rw [e1, e2]
      simp only [Option.isSome_some] at c0
      simp -implicitDefEqProofs (disch := (first | omega | (simp -implicitDefEqProofs only [szs, ne_eq] <;> omega) | fail)) only [go_sem, Nat.reduceAdd, Nat.reduceSub, Nat.reduceMul, Nat.reduceLT, Nat.reduceMod, Nat.reduceDiv, Nat.reduceEqDiff, Nat.reduceBEq, Nat.reduceLeDiff, ↓reduceIte, reduceCtorEq, Int.reduceAdd, Int.reduceSub, Int.reduceLT, Int.reduceLE, Int.reduceBEq, Int.reduceEq, Int.reduceToNat, undefV, t1', t2, c0, hR]
      exact ⟨n1, k1⟩
  · have e1 : setP T tb s p rt = .ptr none := if_neg (fun h => hok h.1)
    have e2 : setE T s p rt = 2 := if_neg hok
    rw [e1, e2, if_neg hok, if_neg hok]
    simp -implicitDefEqProofs (disch := (first | omega | (simp -implicitDefEqProofs only [szs, ne_eq] <;> omega) | fail)) only [go_sem, Nat.reduceAdd, Nat.reduceSub, Nat.reduceMul, Nat.reduceLT, Nat.reduceMod, Nat.reduceDiv, Nat.reduceEqDiff, Nat.reduceBEq, Nat.reduceLeDiff, ↓reduceIte, reduceCtorEq, Int.reduceAdd, Int.reduceSub, Int.reduceLT, Int.reduceLE, Int.reduceBEq, Int.reduceEq, Int.reduceToNat, undefV]
    exact ⟨n1, k1⟩
theorem eq_50 (a1 a2 b1 b2 : Int) : eqD Try.prog 10 50 (.agg [.int .i64 a1, .int .i64 a2]) (.agg [.int .i64 b1, .int .i64 b2]) = (match (a1 == b1) with | true => (match (a2 == b2) with | true => some true | false => some false) | false => some false) := by kernel_rfl
theorem pk_50 : PK Try.prog 50 where
  eq a b := by
    obtain ⟨a1, a2⟩ := a
    obtain ⟨b1, b2⟩ := b
    show eqD Try.prog 10 50 (.agg [.int .i64 a1, .int .i64 a2]) (.agg [.int .i64 b1, .int .i64 b2]) = _
    rw [eq_50]
    by_cases h1 : a1 = b1
    · by_cases h2 : a2 = b2
      · simp [h1, h2]
      · have : (a2 == b2) = false := by simpa using h2
        simp [h1, h2, this]
    · have : (a1 == b1) = false := by simpa using h1
      simp [h1, this]
  ok a := by
    have : ∀ a1 a2 : Int, keyOk Try.prog 10 50 (.agg [.int .i64 a1, .int .i64 a2]) = true := fun a1 a2 => by kernel_rfl
    exact this _ _
  un := ⟨_, Try.underlying50⟩
end Go.Proofs.Ytkfhdaimememiaa
