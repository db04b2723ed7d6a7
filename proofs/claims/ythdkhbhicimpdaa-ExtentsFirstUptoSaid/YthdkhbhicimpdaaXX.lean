/- Extents: where they lie; of, has, set, at. -/
import Derived.Test.YthdkhbhicimpdaaDX
set_option linter.unusedVariables false
set_option maxRecDepth 100000
namespace Go.Proofs.Ythdkhbhicimpdaa
open Go Go.Vm
attribute [-go_sem] sz_113
structure XS where
  n : Nat
  first : Nat → Nat
  count : Nat → Nat
  has : Nat → Nat → Bool
def XS.wds (X : XS) (a : Nat) : Nat := X.count a / 64 + 1
def XS.put (X : XS) (a s : Nat) (b : Bool) : XS := { X with has := fun a' s' => if a' = a ∧ s' = s then b else X.has a' s' }
theorem XS.put_put (X : XS) (a s : Nat) (b c : Bool) : (X.put a s b).put a s c = X.put a s c := by
  unfold XS.put
  congr 1
  funext a' s'
  by_cases e : a' = a ∧ s' = s <;> simp [e]
def WordsAt (h : Heap) (tb n : Nat) (hs : Nat → Bool) : Prop := ∃ c, h.get tb = some (.cells c 123) ∧ c.size = n ∧ c.ro = false ∧ ∀ k, k < n → ∃ w : BitVec 64, c.get k = .int .u64 (w.toNat : Int) ∧ ∀ j, j < 64 → w.getLsbD j = hs (k * 64 + j)
structure ExtAt (h : Heap) (bx bd : Nat) (tb : Nat → Nat) (X : XS) : Prop where
  pos : 1 ≤ X.n ∧ X.n ≤ 8
  x : ∃ c, h.get bx = some (.cells c 60) ∧ c.size = 26 ∧ c.ro = false ∧ c.get 0 = .ptr (some (bd, 0)) ∧ (∀ a, a < X.n → c.get (1 + a * 3) = .int .i64 (X.first a) ∧ c.get (1 + a * 3 + 1) = .int .i64 (X.count a) ∧ ∃ xw, c.get (1 + a * 3 + 2) = .slice (some (tb a, 0)) (X.wds a) (X.wds a) xw) ∧ c.get 25 = .int .i64 X.n
  t : ∀ a, a < X.n → WordsAt h (tb a) (X.wds a) (X.has a)
  inj : ∀ a a', a < X.n → a' < X.n → a ≠ a' → tb a ≠ tb a'
  fit : ∀ a, a < X.n → X.first a + X.count a ≤ 4096
  rest : ∃ c, h.get bx = some (.cells c 60) ∧ ∀ a, X.n ≤ a → a < 8 → c.get (1 + a * 3) = .int .i64 0 ∧ c.get (1 + a * 3 + 1) = .int .i64 0 ∧ c.get (1 + a * 3 + 2) = .slice none 0 0 true
def FootX (bx : Nat) (tb : Nat → Nat) (X : XS) : Set' := fun b => b = bx ∨ ∃ a, a < X.n ∧ b = tb a
theorem ExtAt.same {h h' : Heap} {bx bd : Nat} {tb : Nat → Nat} {X : XS} (hx : ExtAt h bx bd tb X) (hk : ∀ b, FootX bx tb X b → b < h.n → h'.get b = h.get b) : ExtAt h' bx bd tb X := by
  obtain ⟨hp, ⟨c, x1, x2⟩, ht, hi, hf, ⟨c', r1, r2⟩⟩ := hx
  refine ⟨hp, ⟨c, by rw [hk _ (.inl rfl) (Heap.lt_of_get x1)]; exact x1, x2⟩, fun a ha => ?_, hi, hf, ⟨c', by rw [hk _ (.inl rfl) (Heap.lt_of_get r1)]; exact r1, r2⟩⟩
  obtain ⟨c, t1, t2⟩ := ht a ha
  exact ⟨c, by rw [hk _ (.inr ⟨a, ha, rfl⟩) (Heap.lt_of_get t1)]; exact t1, t2⟩
theorem ExtAt.old {h h' : Heap} {bx bd : Nat} {tb : Nat → Nat} {X : XS} (hx : ExtAt h bx bd tb X) (hk : ∀ b, b < h.n → h'.get b = h.get b) : ExtAt h' bx bd tb X := hx.same fun b _ hb => hk b hb
theorem ExtAt.lt {h : Heap} {bx bd : Nat} {tb : Nat → Nat} {X : XS} (hx : ExtAt h bx bd tb X) : ∀ b, FootX bx tb X b → b < h.n := by
  obtain ⟨hp, ⟨c, x1, x2⟩, ht, hi, hf⟩ := hx
  rintro b (rfl | ⟨a, ha, rfl⟩)
  · exact Heap.lt_of_get x1
  · obtain ⟨c, t1, t2⟩ := ht a ha
    exact Heap.lt_of_get t1
theorem xthere_ok {h : Heap} {R W : Set'} {bx bd : Nat} {tb : Nat → Nat} {X : XS} (hx : ExtAt h bx bd tb X) (hR : R bx) : SF Try.prog 44 [.ptr (some (bx, 0))] h R W fun v h' => v = .bool true ∧ h' = h := by
  obtain ⟨c, x1, sz, ro, c0, cp, c25⟩ := hx.x
  have hp := hx.pos
  refine SF.go hm Try.func44 ir44_eq ?_
  simp -implicitDefEqProofs (disch := (first | omega | fail)) only [go_sem, Nat.reduceAdd, Nat.reduceSub, Nat.reduceLT, Nat.reduceMod, Nat.reduceDiv, ↓reduceIte, reduceCtorEq, ir44, x1, sz, c25, hR]
theorem of_ok {h : Heap} {R W : Set'} {bx bd : Nat} {tb : Nat → Nat} {X : XS} (hx : ExtAt h bx bd tb X) (hR : R bx) {a : Nat} (ha : a < X.n) : SF Try.prog 32 [.ptr (some (bx, 0)), .int .i64 a] h R W fun v h' => v = .tuple [.ptr (some (bx, 1 + a * 3)), .int .i64 0] ∧ h' = h := by
  obtain ⟨c, x1, sz, ro, c0, cp, c25⟩ := hx.x
  have hp := hx.pos
  refine SF.go hm Try.func32 ir32_eq ?_
  simp -implicitDefEqProofs (disch := (first | omega | fail)) only [go_sem, Nat.reduceAdd, Nat.reduceSub, Nat.reduceLT, Nat.reduceMod, Nat.reduceDiv, ↓reduceIte, reduceCtorEq, ir32]
  refine GCall.of (xthere_ok hx (.inr hR)) ?_
  rintro v h' ⟨rfl, rfl⟩
  simp -implicitDefEqProofs (disch := (first | omega | fail)) only [go_sem, Nat.reduceAdd, Nat.reduceSub, Nat.reduceLT, Nat.reduceMod, Nat.reduceDiv, ↓reduceIte, reduceCtorEq, x1, sz, c25, hR]
theorem of_bad {h : Heap} {R W : Set'} {bx bd : Nat} {tb : Nat → Nat} {X : XS} (hx : ExtAt h bx bd tb X) (hR : R bx) {a : Int} (ha : ¬ (0 ≤ a ∧ a < X.n)) : SF Try.prog 32 [.ptr (some (bx, 0)), .int .i64 a] h R W fun v h' => v = .tuple [.ptr none, .int .i64 2] ∧ h' = h := by
  obtain ⟨c, x1, sz, ro, c0, cp, c25⟩ := hx.x
  have hp := hx.pos
  refine SF.go hm Try.func32 ir32_eq ?_
  simp -implicitDefEqProofs (disch := (first | omega | fail)) only [go_sem, Nat.reduceAdd, Nat.reduceSub, Nat.reduceLT, Nat.reduceMod, Nat.reduceDiv, ↓reduceIte, reduceCtorEq, ir32]
  refine GCall.of (xthere_ok hx (.inr hR)) ?_
  rintro v h' ⟨rfl, rfl⟩
  by_cases h0 : a < 0
  · simp -implicitDefEqProofs (disch := (first | omega | fail)) only [go_sem, Nat.reduceAdd, Nat.reduceSub, Nat.reduceLT, Nat.reduceMod, Nat.reduceDiv, ↓reduceIte, reduceCtorEq, undefV]
  · simp -implicitDefEqProofs (disch := (first | omega | fail)) only [go_sem, Nat.reduceAdd, Nat.reduceSub, Nat.reduceLT, Nat.reduceMod, Nat.reduceDiv, ↓reduceIte, reduceCtorEq, x1, sz, c25, hR]
theorem has_ok {h : Heap} {R W : Set'} {bx bd : Nat} {tb : Nat → Nat} {X : XS} (hx : ExtAt h bx bd tb X) (hR : ∀ b, FootX bx tb X b → R b) {a s : Nat} (ha : a < X.n) (hs : s < X.count a) : SF Try.prog 45 [.ptr (some (bx, 1 + a * 3)), .int .i64 s] h R W fun v h' => v = .bool (X.has a s) ∧ h' = h := by
  obtain ⟨c, x1, sz, ro, c0, cp, c25⟩ := hx.x
  obtain ⟨p0, p1, xw, p2⟩ := cp a ha
  obtain ⟨t, t1, tsz, tro, tg⟩ := hx.t a ha
  have hp := hx.pos
  have hf := hx.fit a ha
  have hw : s / 64 < X.wds a := by unfold XS.wds; omega
  obtain ⟨w, w1, w2⟩ := tg _ hw
  have hj : s % 64 < 64 := by omega
  have w3 := w2 _ hj
  rw [show s / 64 * 64 + s % 64 = s by omega] at w3
  have hR1 := hR bx (.inl rfl)
  have hR2 := hR (tb a) (.inr ⟨a, ha, rfl⟩)
  have hb := w_bit w (s % 64)
  rw [w3] at hb
  have hsh := w_shr6 s
  have han := w_and63 s (by omega)
  refine SF.go hm Try.func45 ir45_eq ?_
  simp -implicitDefEqProofs (disch := (first | omega | fail)) only [go_sem, Nat.reduceAdd, Nat.reduceSub, Nat.reduceLT, Nat.reduceMod, Nat.reduceDiv, ↓reduceIte, reduceCtorEq, ir45, x1, sz, p2, t1, tsz, w1, ↓hsh, ↓han, ↓w_shrN, ↓w_and1, hb, hR1, hR2]
  cases X.has a s <;> simp
theorem ExtAt.put {h h' : Heap} {bx bd : Nat} {tb : Nat → Nat} {X : XS} (hx : ExtAt h bx bd tb X) {a s : Nat} {v : Bool} (ha : a < X.n) (hs : s < X.count a) {t : Blk} (ht : h.get (tb a) = some (.cells t 123)) {w : BitVec 64} (hw : ∀ j, j < 64 → w.getLsbD j = if j = s % 64 then v else X.has a (s / 64 * 64 + j)) (hh : h' = h.set (tb a) (.cells (t.set (s / 64) (.int .u64 (w.toNat : Int))) 123)) : ExtAt h' bx bd tb (X.put a s v) := by
  subst hh
  obtain ⟨hp, ⟨c, x1, x2⟩, hT, hi, hf, ⟨c', r1, r2⟩⟩ := hx
  have hlt := Heap.lt_of_get ht
  have hne : bx ≠ tb a := fun e => by rw [e, ht] at x1; simp at x1
  refine ⟨hp, ⟨c, by rw [w_set_ne hlt hne]; exact x1, x2⟩, fun a' ha' => ?_, hi, hf, ⟨c', by rw [w_set_ne hlt hne]; exact r1, r2⟩⟩
  obtain ⟨t', t1, t2, t3, t4⟩ := hT a' ha'
  by_cases e : a' = a
  · subst e
    rw [ht] at t1
    obtain rfl : t = t' := by simpa using t1
    refine ⟨_, w_set_eq hlt rfl _, by rw [Blk.size_set]; exact t2, by rw [Blk.ro_set]; exact t3, fun k hk => ?_⟩
    by_cases ek : k = s / 64
    · subst ek
      refine ⟨w, w_bset_eq rfl _, fun j hj => ?_⟩
      rw [hw j hj]
      simp only [XS.put, true_and]
      by_cases e2 : j = s % 64
      · rw [if_pos e2, if_pos (by omega)]
      · rw [if_neg e2, if_neg (by omega)]
    · obtain ⟨w', g1, g2⟩ := t4 k hk
      refine ⟨w', by rw [w_bset_ne ek]; exact g1, fun j hj => ?_⟩
      rw [g2 j hj]
      simp only [XS.put, true_and]
      rw [if_neg (by omega)]
  · have hne2 : tb a' ≠ tb a := hi a' a ha' ha e
    refine ⟨t', by rw [w_set_ne hlt hne2]; exact t1, t2, t3, fun k hk => ?_⟩
    obtain ⟨w', g1, g2⟩ := t4 k hk
    refine ⟨w', g1, fun j hj => ?_⟩
    rw [g2 j hj]
    simp only [XS.put]
    rw [if_neg (by omega)]
theorem set_ok {h : Heap} {R W : Set'} {bx bd : Nat} {tb : Nat → Nat} {X : XS} (hx : ExtAt h bx bd tb X) (hR : ∀ b, FootX bx tb X b → R b) {a s : Nat} (ha : a < X.n) (hs : s < X.count a) (hW : W (tb a)) (v : Bool) : SF Try.prog 46 [.ptr (some (bx, 1 + a * 3)), .int .i64 s, .bool v] h R W fun r h' => ExtAt h' bx bd tb (X.put a s v) := by
  obtain ⟨c, x1, sz, ro, c0, cp, c25⟩ := hx.x
  obtain ⟨p0, p1, xw, p2⟩ := cp a ha
  obtain ⟨t, t1, tsz, tro, tg⟩ := hx.t a ha
  have hp := hx.pos
  have hf := hx.fit a ha
  have hw : s / 64 < X.wds a := by unfold XS.wds; omega
  obtain ⟨w, w1, w2⟩ := tg _ hw
  have hj : s % 64 < 64 := by omega
  have hR1 := hR bx (.inl rfl)
  have hR2 := hR (tb a) (.inr ⟨a, ha, rfl⟩)
  have hsh := w_shr6 s
  have han := w_and63 s (by omega)
  have hne : bx ≠ tb a := fun e => by rw [e, t1] at x1; simp at x1
  have hlt := Heap.lt_of_get t1
  have h1s := w_shl1 hj
  refine SF.go hm Try.func46 ir46_eq ?_
  cases v with
  | false =>
    simp -implicitDefEqProofs (disch := (first | omega | fail)) only [go_sem, Nat.reduceAdd, Nat.reduceSub, Nat.reduceLT, Nat.reduceMod, Nat.reduceDiv, ↓reduceIte, reduceCtorEq, ir46, x1, sz, p2, t1, tsz, tro, w1, ↓hsh, ↓han, ↓h1s, ↓w_andNotN, hR1, hR2, hW]
    exact hx.put ha hs t1 (fun j hj => by rw [bit_clear w _ j hj, w2 j hj]) rfl
  | true =>
    simp -implicitDefEqProofs (disch := (first | omega | fail)) only [go_sem, Nat.reduceAdd, Nat.reduceSub, Nat.reduceLT, Nat.reduceMod, Nat.reduceDiv, ↓reduceIte, reduceCtorEq, ir46, x1, sz, p2, t1, tsz, tro, w1, ↓hsh, ↓han, ↓h1s, ↓w_andNotN, ↓w_orN, hR1, hR2, hW]
    have e1 := hx.put (v := false) ha hs t1 (w := w &&& ~~~(1#64 <<< (s % 64))) (fun j hj => by rw [bit_clear w _ j hj, w2 j hj]) rfl
    have e2 := e1.put (v := true) (a := a) (s := s) ha hs (w_set_eq hlt rfl _) (w := w &&& ~~~(1#64 <<< (s % 64)) ||| 1#64 <<< (s % 64)) (fun j hj => ?_) rfl
    · rw [XS.put_put] at e2; exact e2
    · rw [bit_set w _ j hj, w2 j hj]
      split
      · rfl
      · simp only [XS.put]; rw [if_neg (by omega)]
theorem at_ok {h : Heap} {R W : Set'} {bx bd : Nat} {tb : Nat → Nat} {X : XS} (hx : ExtAt h bx bd tb X) (hR : ∀ b, FootX bx tb X b → R b) {a : Nat} (ha : a < X.n) {s : Nat} (hs : s < X.count a) (ht : X.has a s = true) : SF Try.prog 61 [.ptr (some (bx, 0)), .int .i64 a, .int .i64 s] h R W fun v h' => v = .tuple [.int .i64 ((X.first a + s : Nat) : Int), .int .i64 0] ∧ h' = h := by
  obtain ⟨c, x1, sz, ro, c0, cp, c25⟩ := hx.x
  obtain ⟨p0, p1, xw, p2⟩ := cp a ha
  have hp := hx.pos
  have hf := hx.fit a ha
  have hR1 := hR bx (.inl rfl)
  refine SF.go hm Try.func61 ir61_eq ?_
  simp -implicitDefEqProofs (disch := (first | omega | fail)) only [go_sem, Nat.reduceAdd, Nat.reduceSub, Nat.reduceLT, Nat.reduceMod, Nat.reduceDiv, ↓reduceIte, reduceCtorEq, ir61]
  refine GCall.of (of_ok hx (.inr hR1) ha) ?_
  rintro v h' ⟨rfl, rfl⟩
  simp -implicitDefEqProofs (disch := (first | omega | fail)) only [go_sem, Nat.reduceAdd, Nat.reduceSub, Nat.reduceLT, Nat.reduceMod, Nat.reduceDiv, ↓reduceIte, reduceCtorEq, x1, sz, p1, hR1]
  refine GCall.of (has_ok hx (fun b hb => .inr (hR b hb)) ha hs) ?_
  rintro v h'' ⟨rfl, rfl⟩
  rw [ht]
  simp -implicitDefEqProofs (disch := (first | omega | fail)) only [go_sem, Nat.reduceAdd, Nat.reduceSub, Nat.reduceLT, Nat.reduceMod, Nat.reduceDiv, ↓reduceIte, reduceCtorEq, x1, sz, p0, hR1, Int.natCast_add]
def XS.own (X : XS) (a s : Int) : Prop := (0 ≤ a ∧ a < X.n) ∧ 0 ≤ s ∧ s < X.count a.toNat ∧ X.has a.toNat s.toNat = true
theorem at_bad {h : Heap} {R W : Set'} {bx bd : Nat} {tb : Nat → Nat} {X : XS} (hx : ExtAt h bx bd tb X) (hR : ∀ b, FootX bx tb X b → R b) {a s : Int} (hn : ¬ X.own a s) : SF Try.prog 61 [.ptr (some (bx, 0)), .int .i64 a, .int .i64 s] h R W fun v h' => v = .tuple [.int .i64 0, .int .i64 (if 0 ≤ a ∧ a < X.n then 6 else 2)] ∧ h' = h := by
  have hp := hx.pos
  have hR1 := hR bx (.inl rfl)
  refine SF.go hm Try.func61 ir61_eq ?_
  simp -implicitDefEqProofs (disch := (first | omega | fail)) only [go_sem, Nat.reduceAdd, Nat.reduceSub, Nat.reduceLT, Nat.reduceMod, Nat.reduceDiv, ↓reduceIte, reduceCtorEq, ir61]
  by_cases ha : 0 ≤ a ∧ a < X.n
  · obtain ⟨a, rfl⟩ := Int.eq_ofNat_of_zero_le ha.1
    have ha' : a < X.n := by omega
    have hf := hx.fit a ha'
    obtain ⟨c, x1, sz, ro, c0, cp, c25⟩ := hx.x
    obtain ⟨p0, p1, xw, p2⟩ := cp a ha'
    rw [if_pos ha]
    refine GCall.of (of_ok hx (.inr hR1) ha') ?_
    rintro v h' ⟨rfl, rfl⟩
    by_cases h0 : s < 0
    · simp -implicitDefEqProofs (disch := (first | omega | fail)) only [go_sem, Nat.reduceAdd, Nat.reduceSub, Nat.reduceLT, Nat.reduceMod, Nat.reduceDiv, ↓reduceIte, reduceCtorEq, undefV]
    · by_cases h1 : (X.count a : Int) ≤ s
      · simp -implicitDefEqProofs (disch := (first | omega | fail)) only [go_sem, Nat.reduceAdd, Nat.reduceSub, Nat.reduceLT, Nat.reduceMod, Nat.reduceDiv, ↓reduceIte, reduceCtorEq, x1, sz, p1, hR1, undefV]
      · obtain ⟨s, rfl⟩ := Int.eq_ofNat_of_zero_le (show 0 ≤ s by omega)
        simp -implicitDefEqProofs (disch := (first | omega | fail)) only [go_sem, Nat.reduceAdd, Nat.reduceSub, Nat.reduceLT, Nat.reduceMod, Nat.reduceDiv, ↓reduceIte, reduceCtorEq, x1, sz, p1, hR1]
        refine GCall.of (has_ok hx (fun b hb => .inr (hR b hb)) ha' (by omega)) ?_
        rintro v h'' ⟨rfl, rfl⟩
        have : X.has a s = false := by
          cases e : X.has a s with
          | false => rfl
          | true => exact absurd ⟨ha, by omega, by simpa using (by omega : s < X.count a), by simpa using e⟩ hn
        rw [this]
        simp -implicitDefEqProofs (disch := (first | omega | fail)) only [go_sem, Nat.reduceAdd, Nat.reduceSub, Nat.reduceLT, Nat.reduceMod, Nat.reduceDiv, ↓reduceIte, reduceCtorEq]
  · rw [if_neg ha]
    refine GCall.of (of_bad hx (.inr hR1) ha) ?_
    rintro v h' ⟨rfl, rfl⟩
    simp -implicitDefEqProofs (disch := (first | omega | fail)) only [go_sem, Nat.reduceAdd, Nat.reduceSub, Nat.reduceLT, Nat.reduceMod, Nat.reduceDiv, ↓reduceIte, reduceCtorEq]
end Go.Proofs.Ythdkhbhicimpdaa
namespace Go.Proofs.Ythdkhbhicimpdaa
open Go Go.Vm
attribute [-go_sem] sz_113
def XS.fill (X : XS) (a f n : Nat) (b : Bool) : XS := { X with has := fun a' s' => if a' = a ∧ f ≤ s' ∧ s' < f + n then b else X.has a' s' }
theorem XS.fill_zero (X : XS) (a f : Nat) (b : Bool) : X.fill a f 0 b = X := by
  obtain ⟨n, fi, co, ha⟩ := X
  unfold XS.fill
  congr 1
  funext a' s'
  exact if_neg (by omega)
theorem XS.fill_succ (X : XS) (a f n : Nat) (b : Bool) : (X.fill a f n b).put a (f + n) b = X.fill a f (n + 1) b := by
  unfold XS.fill XS.put
  congr 1
  funext a' s'
  show (if a' = a ∧ s' = f + n then b else if a' = a ∧ f ≤ s' ∧ s' < f + n then b else X.has a' s') = if a' = a ∧ f ≤ s' ∧ s' < f + (n + 1) then b else X.has a' s'
  by_cases e : a' = a ∧ s' = f + n
  · rw [if_pos e, if_pos (by omega)]
  · rw [if_neg e]
    by_cases e3 : a' = a ∧ f ≤ s' ∧ s' < f + n
    · rw [if_pos e3, if_pos (by omega)]
    · rw [if_neg e3, if_neg (by omega)]
def TakeQ (hs : Nat → Bool) (cnt n : Nat) : Option Nat → Prop
  | some f => (f + n ≤ cnt ∧ ∀ s, f ≤ s → s < f + n → hs s = false) ∧ ∀ f', f' < f → ∃ s, f' ≤ s ∧ s < f' + n ∧ hs s = true
  | none => ∀ f', f' + n ≤ cnt → ∃ s, f' ≤ s ∧ s < f' + n ∧ hs s = true
theorem TakeQ.one {hs : Nat → Bool} {cnt n : Nat} {r r' : Option Nat} (h : TakeQ hs cnt n r) (h' : TakeQ hs cnt n r') : r = r' := by
  cases r with
  | none =>
    cases r' with
    | none => rfl
    | some f =>
      obtain ⟨s, h1, h2, h3⟩ := h f h'.1.1
      rw [h'.1.2 s h1 h2] at h3; cases h3
  | some f =>
    cases r' with
    | none =>
      obtain ⟨s, h1, h2, h3⟩ := h' f h.1.1
      rw [h.1.2 s h1 h2] at h3; cases h3
    | some f' =>
      by_cases e : f = f'
      · rw [e]
      · by_cases e2 : f < f'
        · obtain ⟨s, h1, h2, h3⟩ := h'.2 f e2
          rw [h.1.2 s h1 h2] at h3; cases h3
        · obtain ⟨s, h1, h2, h3⟩ := h.2 f' (by omega)
          rw [h'.1.2 s h1 h2] at h3; cases h3
def takeV : Option Nat → V
  | some f => .tuple [.int .i64 f, .int .i64 0]
  | none => .tuple [.int .i64 0, .int .i64 5]
def XS.took (X : XS) (a n : Nat) : Option Nat → XS
  | some f => X.fill a f n true
  | none => X
theorem take_bad {h : Heap} {R W : Set'} {bx bd : Nat} {tb : Nat → Nat} {X : XS} (hx : ExtAt h bx bd tb X) (hR : ∀ b, FootX bx tb X b → R b) {a n : Int} (hn : ¬ (0 ≤ a ∧ a < X.n) ∨ n < 1) : SF Try.prog 19 [.ptr (some (bx, 0)), .int .i64 a, .int .i64 n] h R W fun v h' => v = .tuple [.int .i64 0, .int .i64 2] ∧ h' = h := by
  have hp := hx.pos
  have hR1 := hR bx (.inl rfl)
  refine SF.go hm Try.func19 ir19_eq ?_
  simp -implicitDefEqProofs (disch := (first | omega | fail)) only [go_sem, Nat.reduceAdd, Nat.reduceSub, Nat.reduceLT, Nat.reduceMod, Nat.reduceDiv, ↓reduceIte, reduceCtorEq, ir19]
  by_cases ha : 0 ≤ a ∧ a < X.n
  · obtain ⟨a, rfl⟩ := Int.eq_ofNat_of_zero_le ha.1
    refine GCall.of (of_ok hx (.inr hR1) (by omega)) ?_
    rintro v h' ⟨rfl, rfl⟩
    simp -implicitDefEqProofs (disch := (first | omega | fail)) only [go_sem, Nat.reduceAdd, Nat.reduceSub, Nat.reduceLT, Nat.reduceMod, Nat.reduceDiv, ↓reduceIte, reduceCtorEq]
  · refine GCall.of (of_bad hx (.inr hR1) ha) ?_
    rintro v h' ⟨rfl, rfl⟩
    simp -implicitDefEqProofs (disch := (first | omega | fail)) only [go_sem, Nat.reduceAdd, Nat.reduceSub, Nat.reduceLT, Nat.reduceMod, Nat.reduceDiv, ↓reduceIte, reduceCtorEq]
set_option maxHeartbeats 1000000 in
theorem take_ok {h : Heap} {R W : Set'} {bx bd : Nat} {tb : Nat → Nat} {X : XS} (hx : ExtAt h bx bd tb X) (hR : ∀ b, FootX bx tb X b → R b) {a n : Nat} (ha : a < X.n) (hn : 1 ≤ n) (hn2 : n ≤ 9223372036854775807) (hW : W (tb a)) : SF Try.prog 19 [.ptr (some (bx, 0)), .int .i64 a, .int .i64 n] h R W fun v h' => ∃ r, TakeQ (X.has a) (X.count a) n r ∧ v = takeV r ∧ ExtAt h' bx bd tb (X.took a n r) := by
  have hp := hx.pos
  have hR1 := hR bx (.inl rfl)
  obtain ⟨c, x1, sz, ro, c0, cp, c25⟩ := hx.x
  obtain ⟨p0, p1, xw, p2⟩ := cp a ha
  have hf := hx.fit a ha
  refine SF.go hm Try.func19 ir19_eq ?_
  simp -implicitDefEqProofs (disch := (first | omega | fail)) only [go_sem, Nat.reduceAdd, Nat.reduceSub, Nat.reduceLT, Nat.reduceMod, Nat.reduceDiv, ↓reduceIte, reduceCtorEq, ir19]
  refine GCall.of (of_ok hx (.inr hR1) ha) ?_
  rintro v h' ⟨rfl, rfl⟩
  simp -implicitDefEqProofs (disch := (first | omega | fail)) only [go_sem, Nat.reduceAdd, Nat.reduceSub, Nat.reduceLT, Nat.reduceMod, Nat.reduceDiv, ↓reduceIte, reduceCtorEq]
  refine GLoop.inv hm (fun k f g => g = h' ∧ f.mks = [] ∧ f.tm.n = 67 ∧ f.tm.get 2 = some (.int .i64 n) ∧ f.tm.get 8 = some (.ptr (some (bx, 1 + a * 3))) ∧ ∃ j : Nat, j + k = X.count a ∧ f.tm.get 10 = some (.int .i64 j) ∧ ∀ f', f' < j → ∃ s, f' ≤ s ∧ s < f' + n ∧ X.has a s = true) (X.count a) ?_ ?_
  · exact ⟨rfl, rfl, rfl, by simp -implicitDefEqProofs (disch := (first | omega | fail)) only [go_sem, Nat.reduceSub, Nat.reduceMod, Nat.reduceDiv, ↓reduceIte, reduceCtorEq], by simp -implicitDefEqProofs (disch := (first | omega | fail)) only [go_sem, Nat.reduceSub, Nat.reduceMod, Nat.reduceDiv, ↓reduceIte, reduceCtorEq], 0, by omega, by simp -implicitDefEqProofs (disch := (first | omega | fail)) only [go_sem, Nat.reduceSub, Nat.reduceMod, Nat.reduceDiv, ↓reduceIte, reduceCtorEq]; rfl, fun f' h => by omega⟩
  rintro k ⟨⟨n', tr⟩, mks⟩ g ⟨rfl, hmk, hn', t2, t8, j, hj, t10, hlow⟩
  simp only [Tm.get_mk] at hmk hn' t2 t8 t10
  subst hmk hn'
  by_cases hjc : j < X.count a ∧ n ≤ X.count a - j
  · obtain ⟨hjc, hnc⟩ := hjc
    simp -implicitDefEqProofs (disch := (first | omega | fail)) only [go_sem, Nat.reduceAdd, Nat.reduceLT, Nat.reduceEqDiff, ↓reduceIte, ir19_l2, t2, t8, t10, x1, sz, p1, hR1]
    refine GLoop.inv hm (fun k2 f g' => g' = g ∧ f.mks = [] ∧ f.tm.n = 67 ∧ f.tm.get 2 = some (.int .i64 n) ∧ f.tm.get 8 = some (.ptr (some (bx, 1 + a * 3))) ∧ f.tm.get 10 = some (.int .i64 j) ∧ ∃ i : Nat, i + k2 = n ∧ f.tm.get 11 = some (.int .i64 ((j + i : Nat) : Int)) ∧ ∀ s, j ≤ s → s < j + i → X.has a s = false) n ?_ ?_
    · exact ⟨rfl, rfl, rfl, by simp -implicitDefEqProofs (disch := (first | omega | fail)) only [go_sem, Nat.reduceEqDiff, ↓reduceIte, t2], by simp -implicitDefEqProofs (disch := (first | omega | fail)) only [go_sem, Nat.reduceEqDiff, ↓reduceIte, t8], by simp -implicitDefEqProofs (disch := (first | omega | fail)) only [go_sem, Nat.reduceEqDiff, ↓reduceIte, t10], 0, by omega, by simp -implicitDefEqProofs (disch := (first | omega | fail)) only [go_sem, ↓reduceIte], fun s h1 h2 => by omega⟩
    clear t2 t8 t10
    clear tr
    rintro k2 ⟨⟨n', tr⟩, mks⟩ g' ⟨rfl, hmk, hn', t2, t8, t10, i, hi, t11, hfree⟩
    simp only [Tm.get_mk] at hmk hn' t2 t8 t10 t11
    subst hmk hn'
    by_cases hin : i < n
    · simp -implicitDefEqProofs (disch := (first | omega | fail)) only [go_sem, Nat.reduceAdd, Nat.reduceLT, Nat.reduceEqDiff, ↓reduceIte, ir19_l0, t2, t8, t10, t11]
      refine GCall.of (has_ok hx (fun b hb => .inr (hR b hb)) ha (by omega)) ?_
      rintro v h'' ⟨rfl, rfl⟩
      cases hb : X.has a (j + i) with
      | true =>
        simp -implicitDefEqProofs (disch := (first | omega | fail)) only [go_sem, Nat.reduceAdd, Nat.reduceLT, Nat.reduceEqDiff, ↓reduceIte, t2, t8, t10]
        exact ⟨k - 1, by omega, j + 1, by omega, congrArg _ (by omega), fun f' hf' => by
          by_cases e : f' = j
          · exact ⟨j + i, by omega, by omega, hb⟩
          · exact hlow f' (by omega)⟩
      | false =>
        simp -implicitDefEqProofs (disch := (first | omega | fail)) only [go_sem, Nat.reduceAdd, Nat.reduceLT, Nat.reduceEqDiff, ↓reduceIte, t2, t8, t10, t11]
        exact ⟨k2 - 1, by omega, i + 1, by omega, congrArg _ (by omega), fun s h1 h2 => by
          by_cases e : s = j + i
          · rw [e]; exact hb
          · exact hfree s h1 (by omega)⟩
    · have : i = n := by omega
      subst this
      simp -implicitDefEqProofs (disch := (first | omega | fail)) only [go_sem, Nat.reduceAdd, Nat.reduceLT, Nat.reduceEqDiff, ↓reduceIte, ir19_l0, t2, t10, t11]
      refine GLoop.inv hm (fun k3 f g' => f.mks = [] ∧ f.tm.n = 67 ∧ f.tm.get 2 = some (.int .i64 i) ∧ f.tm.get 8 = some (.ptr (some (bx, 1 + a * 3))) ∧ f.tm.get 10 = some (.int .i64 j) ∧ ∃ q : Nat, q + k3 = i ∧ f.tm.get 12 = some (.int .i64 ((j + q : Nat) : Int)) ∧ ExtAt g' bx bd tb (X.fill a j q true)) i ?_ ?_
      · exact ⟨rfl, rfl, by simp -implicitDefEqProofs (disch := (first | omega | fail)) only [go_sem, Nat.reduceEqDiff, ↓reduceIte, t2], by simp -implicitDefEqProofs (disch := (first | omega | fail)) only [go_sem, Nat.reduceEqDiff, ↓reduceIte, t8], by simp -implicitDefEqProofs (disch := (first | omega | fail)) only [go_sem, Nat.reduceEqDiff, ↓reduceIte, t10], 0, by omega, by simp -implicitDefEqProofs (disch := (first | omega | fail)) only [go_sem, ↓reduceIte], by rw [XS.fill_zero]; exact hx⟩
      clear t2 t8 t10 t11
      clear tr
      rintro k3 ⟨⟨n', tr⟩, mks⟩ g2 ⟨hmk, hn', t2, t8, t10, q, hq, t12, hxq⟩
      simp only [Tm.get_mk] at hmk hn' t2 t8 t10 t12
      subst hmk hn'
      by_cases hqn : q < i
      · simp -implicitDefEqProofs (disch := (first | omega | fail)) only [go_sem, Nat.reduceAdd, Nat.reduceLT, Nat.reduceEqDiff, ↓reduceIte, ir19_l1, t2, t8, t10, t12]
        refine GCall.of (set_ok (a := a) (s := j + q) hxq (fun b hb => .inr (hR b hb)) ha (show j + q < X.count a by omega) (.inr hW) true) ?_
        rintro v h'' hx2
        rw [XS.fill_succ] at hx2
        simp -implicitDefEqProofs (disch := (first | omega | fail)) only [go_sem, Nat.reduceAdd, Nat.reduceLT, Nat.reduceEqDiff, ↓reduceIte, t2, t8, t10, t12]
        exact ⟨k3 - 1, by omega, q + 1, by omega, congrArg _ (by omega), hx2⟩
      · have : q = i := by omega
        subst this
        simp -implicitDefEqProofs (disch := (first | omega | fail)) only [go_sem, Nat.reduceAdd, Nat.reduceLT, Nat.reduceEqDiff, ↓reduceIte, ir19_l1, t2, t10, t12]
        exact ⟨some j, ⟨⟨by omega, hfree⟩, hlow⟩, rfl, hxq⟩
  · have hno : TakeQ (X.has a) (X.count a) n none := fun f' hf' => hlow f' (by omega)
    by_cases hjc2 : j < X.count a
    · simp -implicitDefEqProofs (disch := (first | omega | fail)) only [go_sem, Nat.reduceAdd, Nat.reduceLT, Nat.reduceEqDiff, ↓reduceIte, ir19_l2, t2, t8, t10, x1, sz, p1, hR1]
      exact ⟨none, hno, rfl, hx⟩
    · simp -implicitDefEqProofs (disch := (first | omega | fail)) only [go_sem, Nat.reduceAdd, Nat.reduceLT, Nat.reduceEqDiff, ↓reduceIte, ir19_l2, t8, t10, x1, sz, p1, hR1, undefV]
      exact ⟨none, hno, rfl, hx⟩
def XS.full (X : XS) (a f n : Nat) : Prop := f + n ≤ X.count a ∧ ∀ s, f ≤ s → s < f + n → X.has a s = true
theorem give_bad {h : Heap} {R W : Set'} {bx bd : Nat} {tb : Nat → Nat} {X : XS} (hx : ExtAt h bx bd tb X) (hR : ∀ b, FootX bx tb X b → R b) {a f n : Int} (hn : ¬ (0 ≤ a ∧ a < X.n) ∨ n < 1 ∨ f < 0) : SF Try.prog 20 [.ptr (some (bx, 0)), .int .i64 a, .int .i64 f, .int .i64 n] h R W fun v h' => v = .int .i64 2 ∧ h' = h := by
  have hp := hx.pos
  have hR1 := hR bx (.inl rfl)
  refine SF.go hm Try.func20 ir20_eq ?_
  simp -implicitDefEqProofs (disch := (first | omega | fail)) only [go_sem, Nat.reduceAdd, Nat.reduceSub, Nat.reduceLT, Nat.reduceMod, Nat.reduceDiv, ↓reduceIte, reduceCtorEq, ir20]
  by_cases ha : 0 ≤ a ∧ a < X.n
  · obtain ⟨a, rfl⟩ := Int.eq_ofNat_of_zero_le ha.1
    refine GCall.of (of_ok hx (.inr hR1) (by omega)) ?_
    rintro v h' ⟨rfl, rfl⟩
    by_cases h1 : n < 1
    · simp -implicitDefEqProofs (disch := (first | omega | fail)) only [go_sem, Nat.reduceAdd, Nat.reduceSub, Nat.reduceLT, Nat.reduceMod, Nat.reduceDiv, ↓reduceIte, reduceCtorEq, undefV]
    · simp -implicitDefEqProofs (disch := (first | omega | fail)) only [go_sem, Nat.reduceAdd, Nat.reduceSub, Nat.reduceLT, Nat.reduceMod, Nat.reduceDiv, ↓reduceIte, reduceCtorEq]
  · refine GCall.of (of_bad hx (.inr hR1) ha) ?_
    rintro v h' ⟨rfl, rfl⟩
    simp -implicitDefEqProofs (disch := (first | omega | fail)) only [go_sem, Nat.reduceAdd, Nat.reduceSub, Nat.reduceLT, Nat.reduceMod, Nat.reduceDiv, ↓reduceIte, reduceCtorEq]
set_option maxHeartbeats 1000000 in
theorem give_ok {h : Heap} {R W : Set'} {bx bd : Nat} {tb : Nat → Nat} {X : XS} (hx : ExtAt h bx bd tb X) (hR : ∀ b, FootX bx tb X b → R b) {a f n : Nat} (ha : a < X.n) (hn : 1 ≤ n) (hn2 : n ≤ 9223372036854775807) (hf2 : f ≤ 9223372036854775807) (hW : W (tb a)) : SF Try.prog 20 [.ptr (some (bx, 0)), .int .i64 a, .int .i64 f, .int .i64 n] h R W fun v h' => (X.full a f n ∧ v = .int .i64 0 ∧ ExtAt h' bx bd tb (X.fill a f n false)) ∨ (¬ X.full a f n ∧ v = .int .i64 6 ∧ h' = h) := by
  have hp := hx.pos
  have hR1 := hR bx (.inl rfl)
  obtain ⟨c, x1, sz, ro, c0, cp, c25⟩ := hx.x
  obtain ⟨p0, p1, xw, p2⟩ := cp a ha
  have hf := hx.fit a ha
  refine SF.go hm Try.func20 ir20_eq ?_
  simp -implicitDefEqProofs (disch := (first | omega | fail)) only [go_sem, Nat.reduceAdd, Nat.reduceSub, Nat.reduceLT, Nat.reduceMod, Nat.reduceDiv, ↓reduceIte, reduceCtorEq, ir20]
  refine GCall.of (of_ok hx (.inr hR1) ha) ?_
  rintro v h' ⟨rfl, rfl⟩
  by_cases hfc : X.count a < f
  · simp -implicitDefEqProofs (disch := (first | omega | fail)) only [go_sem, Nat.reduceAdd, Nat.reduceSub, Nat.reduceLT, Nat.reduceMod, Nat.reduceDiv, ↓reduceIte, reduceCtorEq, x1, sz, p1, hR1, undefV]
    exact .inr fun hh => by have := hh.1; omega
  by_cases hnc : X.count a - f < n
  · simp -implicitDefEqProofs (disch := (first | omega | fail)) only [go_sem, Nat.reduceAdd, Nat.reduceSub, Nat.reduceLT, Nat.reduceMod, Nat.reduceDiv, ↓reduceIte, reduceCtorEq, x1, sz, p1, hR1]
    exact .inr fun hh => by have := hh.1; omega
  simp -implicitDefEqProofs (disch := (first | omega | fail)) only [go_sem, Nat.reduceAdd, Nat.reduceSub, Nat.reduceLT, Nat.reduceMod, Nat.reduceDiv, ↓reduceIte, reduceCtorEq, x1, sz, p1, hR1]
  refine GLoop.inv hm (fun k2 fr g' => g' = h' ∧ fr.mks = [] ∧ fr.tm.n = 70 ∧ fr.tm.get 2 = some (.int .i64 f) ∧ fr.tm.get 3 = some (.int .i64 n) ∧ fr.tm.get 9 = some (.ptr (some (bx, 1 + a * 3))) ∧ ∃ i : Nat, i + k2 = n ∧ fr.tm.get 11 = some (.int .i64 ((f + i : Nat) : Int)) ∧ ∀ s, f ≤ s → s < f + i → X.has a s = true) n ?_ ?_
  · exact ⟨rfl, rfl, rfl, by simp -implicitDefEqProofs (disch := (first | omega | fail)) only [go_sem, Nat.reduceSub, Nat.reduceMod, Nat.reduceDiv, ↓reduceIte, reduceCtorEq], by simp -implicitDefEqProofs (disch := (first | omega | fail)) only [go_sem, Nat.reduceMod, Nat.reduceDiv, ↓reduceIte, reduceCtorEq], by simp -implicitDefEqProofs (disch := (first | omega | fail)) only [go_sem, Nat.reduceSub, Nat.reduceMod, Nat.reduceDiv, ↓reduceIte, reduceCtorEq], 0, by omega, by simp -implicitDefEqProofs (disch := (first | omega | fail)) only [go_sem, Nat.reduceSub, Nat.reduceMod, Nat.reduceDiv, ↓reduceIte, reduceCtorEq], fun s h1 h2 => by omega⟩
  rintro k2 ⟨⟨n', tr⟩, mks⟩ g' ⟨rfl, hmk, hn', t2, t3, t9, i, hi, t11, hall⟩
  simp only [Tm.get_mk] at hmk hn' t2 t3 t9 t11
  subst hmk hn'
  by_cases hin : i < n
  · simp -implicitDefEqProofs (disch := (first | omega | fail)) only [go_sem, Nat.reduceAdd, Nat.reduceLT, Nat.reduceEqDiff, ↓reduceIte, ir20_l0, t2, t3, t9, t11]
    refine GCall.of (has_ok hx (fun b hb => .inr (hR b hb)) ha (by omega)) ?_
    rintro v h'' ⟨rfl, rfl⟩
    cases hb : X.has a (f + i) with
    | false =>
      simp -implicitDefEqProofs (disch := (first | omega | fail)) only [go_sem, Nat.reduceAdd, Nat.reduceLT, ↓reduceIte]
      exact .inr fun hh => by
        have := hh.2 (f + i) (by omega) (by omega)
        rw [hb] at this; cases this
    | true =>
      simp -implicitDefEqProofs (disch := (first | omega | fail)) only [go_sem, Nat.reduceAdd, Nat.reduceLT, Nat.reduceEqDiff, ↓reduceIte, t2, t3, t9, t11]
      exact ⟨k2 - 1, by omega, i + 1, by omega, congrArg _ (by omega), fun s h1 h2 => by
        by_cases e : s = f + i
        · rw [e]; exact hb
        · exact hall s h1 (by omega)⟩
  · have : i = n := by omega
    subst this
    simp -implicitDefEqProofs (disch := (first | omega | fail)) only [go_sem, Nat.reduceAdd, Nat.reduceLT, Nat.reduceEqDiff, ↓reduceIte, ir20_l0, t2, t3, t11]
    refine GLoop.inv hm (fun k3 fr g' => fr.mks = [] ∧ fr.tm.n = 70 ∧ fr.tm.get 2 = some (.int .i64 f) ∧ fr.tm.get 3 = some (.int .i64 i) ∧ fr.tm.get 9 = some (.ptr (some (bx, 1 + a * 3))) ∧ ∃ q : Nat, q + k3 = i ∧ fr.tm.get 12 = some (.int .i64 ((f + q : Nat) : Int)) ∧ ExtAt g' bx bd tb (X.fill a f q false)) i ?_ ?_
    · exact ⟨rfl, rfl, by simp -implicitDefEqProofs (disch := (first | omega | fail)) only [go_sem, Nat.reduceEqDiff, ↓reduceIte, t2], by simp -implicitDefEqProofs (disch := (first | omega | fail)) only [go_sem, Nat.reduceEqDiff, ↓reduceIte, t3], by simp -implicitDefEqProofs (disch := (first | omega | fail)) only [go_sem, Nat.reduceEqDiff, ↓reduceIte, t9], 0, by omega, by simp -implicitDefEqProofs (disch := (first | omega | fail)) only [go_sem, ↓reduceIte], by rw [XS.fill_zero]; exact hx⟩
    clear t2 t3 t9 t11
    clear tr
    rintro k3 ⟨⟨n', tr⟩, mks⟩ g2 ⟨hmk, hn', t2, t3, t9, q, hq, t12, hxq⟩
    simp only [Tm.get_mk] at hmk hn' t2 t3 t9 t12
    subst hmk hn'
    by_cases hqn : q < i
    · simp -implicitDefEqProofs (disch := (first | omega | fail)) only [go_sem, Nat.reduceAdd, Nat.reduceLT, Nat.reduceEqDiff, ↓reduceIte, ir20_l1, t2, t3, t9, t12]
      refine GCall.of (set_ok (a := a) (s := f + q) hxq (fun b hb => .inr (hR b hb)) ha (show f + q < X.count a by omega) (.inr hW) false) ?_
      rintro v h'' hx2
      rw [XS.fill_succ] at hx2
      simp -implicitDefEqProofs (disch := (first | omega | fail)) only [go_sem, Nat.reduceAdd, Nat.reduceLT, Nat.reduceEqDiff, ↓reduceIte, t2, t3, t9, t12]
      exact ⟨k3 - 1, by omega, q + 1, by omega, congrArg _ (by omega), hx2⟩
    · have : q = i := by omega
      subst this
      simp -implicitDefEqProofs (disch := (first | omega | fail)) only [go_sem, Nat.reduceAdd, Nat.reduceLT, Nat.reduceEqDiff, ↓reduceIte, ir20_l1, t2, t3, t12]
      exact .inl ⟨⟨by omega, hall⟩, hxq⟩
end Go.Proofs.Ythdkhbhicimpdaa
namespace Go.Proofs.Ythdkhbhicimpdaa
open Go Go.Vm
attribute [-go_sem] sz_113
def cntB (f : Nat → Bool) : Nat → Nat
  | 0 => 0
  | k + 1 => cntB f k + if f k then 1 else 0
theorem cntB_le (f : Nat → Bool) : ∀ k, cntB f k ≤ k
  | 0 => Nat.le_refl _
  | k + 1 => by have := cntB_le f k; simp only [cntB]; split <;> omega
theorem cntB_run {f : Nat → Bool} {p : Nat} : ∀ {k : Nat}, (∀ s, p ≤ s → s < p + k → f s = true) → cntB f (p + k) = cntB f p + k
  | 0, _ => rfl
  | k + 1, h => by
    rw [← Nat.add_assoc, cntB, cntB_run (k := k) fun s h1 h2 => h s h1 (by omega), h (p + k) (by omega) (by omega)]
    simp; omega
theorem cntB_skip {f : Nat → Bool} {p : Nat} (h : f p = false) : cntB f (p + 1) = cntB f p := by simp [cntB, h]
theorem runs_ok {h : Heap} {R W : Set'} {bx : Nat} {a : Int} : SF Try.prog 48 [.ptr (some (bx, 0)), .int .i64 a] h R W fun v h' => v = .func 68 [] [.ptr (some (h.n, 0)), .ptr (some (h.n + 1, 0))] ∧ h' = (h.push (.cells (Blk.of [.ptr (some (bx, 0))]) 25)).push (.cells (Blk.of [.int .i64 a]) 3) := by
  refine SF.go hm Try.func48 ir48_eq ?_
  simp -implicitDefEqProofs (disch := (first | omega | fail)) only [go_sem, Nat.reduceAdd, Nat.reduceSub, Nat.reduceLT, Nat.reduceMod, Nat.reduceDiv, ↓reduceIte, reduceCtorEq, ir48]
structure TI (h0 ha : Heap) (tr : Tr V) (X : XS) (a p : Nat) (g : Heap) : Prop where
  n : ha.n + 2 ≤ g.n
  mark : g.get ha.n = some (.deferred true)
  loop : g.get (ha.n + 1) = some (.loop ⟨.ready, none, ⟨16, tr⟩, [10], (rc24 0).1, (rc24 0).2, ha.n⟩)
  acc : ∃ c, g.get h0.n = some (.cells c 3) ∧ c.size = 1 ∧ c.ro = false ∧ c.get 0 = .int .i64 (cntB (X.has a) (min p (X.count a)))
  old : ∀ b, b < h0.n → g.get b = h0.get b
theorem TI.keep {h0 ha : Heap} {tr : Tr V} {X : XS} {a p : Nat} {g g' : Heap} (hn : h0.n < ha.n) (d : TI h0 ha tr X a p g) (h1 : g.n ≤ g'.n) (h2 : ∀ b, b < g.n → g'.get b = g.get b) : TI h0 ha tr X a p g' := by
  have := d.n
  obtain ⟨c, e, r⟩ := d.acc
  exact ⟨by omega, by rw [h2 _ (by omega)]; exact d.mark, by rw [h2 _ (by omega)]; exact d.loop, ⟨c, by rw [h2 _ (by omega)]; exact e, r⟩, fun b hb => by rw [h2 _ (by omega)]; exact d.old b hb⟩
end Go.Proofs.Ythdkhbhicimpdaa
namespace Go.Proofs.Ythdkhbhicimpdaa
open Go Go.Vm
attribute [-go_sem] sz_113
structure UU where
  bx : Nat
  bd : Nat
  tb : Nat → Nat
  L : DL
  X : XS
  D : DS
structure AtU (h : Heap) (u : UU) : Prop where
  x : ExtAt h u.bx u.bd u.tb u.X
  d : DiskAt h u.bd u.L u.D
  fit : ∀ a, a < u.X.n → u.X.first a + u.X.count a ≤ u.D.n
def UU.foot (u : UU) : Set' := fun b => Foot u.bd u.L u.D b ∨ FootX u.bx u.tb u.X b
theorem AtU.same {h h' : Heap} {u : UU} (hu : AtU h u) (hk : ∀ b, u.foot b → b < h.n → h'.get b = h.get b) : AtU h' u :=
  ⟨hu.x.same fun b hb => hk b (.inr hb), hu.d.same fun b hb => hk b (.inl hb), hu.fit⟩
theorem AtU.old {h h' : Heap} {u : UU} (hu : AtU h u) (hk : ∀ b, b < h.n → h'.get b = h.get b) : AtU h' u := hu.same fun b _ hb => hk b hb
theorem AtU.lt {h : Heap} {u : UU} (hu : AtU h u) : ∀ b, u.foot b → b < h.n := by
  rintro b (hb | hb)
  · exact hu.d.lt b hb
  · exact hu.x.lt b hb
theorem FootX.notD {h : Heap} {u : UU} (hu : AtU h u) {b : Nat} (hb : FootX u.bx u.tb u.X b) : ¬ Foot u.bd u.L u.D b := by
  obtain ⟨_, ⟨c1, d1, _⟩, ⟨f, f1, _⟩, ⟨es, ck, m1, m2, m3⟩, _⟩ := hu.d
  have key : ∀ c t, h.get b = some (.cells c t) → t = 60 ∨ t = 123 → ¬ Foot u.bd u.L u.D b := by
    rintro c t e ht (rfl | rfl | rfl | ⟨x, hx, rfl⟩)
    · rw [d1] at e; rcases ht with rfl | rfl <;> simp at e
    · rw [f1] at e; rcases ht with rfl | rfl <;> simp at e
    · rw [m1] at e; simp at e
    · rw [(m3.blk x hx).1] at e; rcases ht with rfl | rfl <;> simp at e
  rcases hb with rfl | ⟨a, ha, rfl⟩
  · obtain ⟨c, x1, _⟩ := hu.x.x
    exact key c _ x1 (.inl rfl)
  · obtain ⟨c, t1, _⟩ := hu.x.t a ha
    exact key c _ t1 (.inr rfl)
def UU.write (u : UU) (s nb : Nat) (l : List V) : UU := { u with L := u.L.write s nb, D := u.D.write s l }
def UU.flush (u : UU) (a m : Nat) : UU := { u with D := u.D.flush a m }
theorem AtU.write {h h' : Heap} {u : UU} {s nb : Nat} {l : List V} (hu : AtU h u) (vf : VF h h' (Foot u.bd u.L u.D)) (hd : DiskAt h' u.bd (u.L.write s nb) (u.D.write s l)) : AtU h' (u.write s nb l) :=
  ⟨hu.x.same fun b hb hb2 => vf.get b hb2 (FootX.notD hu hb), hd, hu.fit⟩
theorem AtU.flush {h h' : Heap} {u : UU} {a m : Nat} (hu : AtU h u) (vf : VF h h' (Foot u.bd u.L u.D)) (hd : DiskAt h' u.bd u.L (u.D.flush a m)) : AtU h' (u.flush a m) :=
  ⟨hu.x.same fun b hb hb2 => vf.get b hb2 (FootX.notD hu hb), hd, hu.fit⟩
theorem UU.foot_write {u : UU} {s nb b : Nat} {l : List V} (hb : (u.write s nb l).foot b) : u.foot b ∨ b = nb := by
  rcases hb with h | h
  · exact (Foot.write h).imp .inl id
  · exact .inl (.inr h)
theorem UU.foot_flush {u : UU} {a m b : Nat} (hb : (u.flush a m).foot b) : u.foot b := by
  rcases hb with h | h
  · exact .inl (Foot.flush h)
  · exact .inr h
def XS.err (X : XS) (a : Int) : Int := if 0 ≤ a ∧ a < X.n then 6 else 2
theorem xread_bad {h : Heap} {R W : Set'} {bx bd : Nat} {tb : Nat → Nat} {X : XS} (hx : ExtAt h bx bd tb X) (hR : ∀ b, FootX bx tb X b → R b) {a s : Int} (hn : ¬ X.own a s) : SF Try.prog 42 [.ptr (some (bx, 0)), .int .i64 a, .int .i64 s] h R W fun v h' => v = .tuple [.slice none 0 0 true, .int .i64 (X.err a)] ∧ h' = h := by
  refine SF.go hm Try.func42 ir42_eq ?_
  simp -implicitDefEqProofs (disch := (first | omega | fail)) only [go_sem, Nat.reduceAdd, Nat.reduceSub, Nat.reduceLT, Nat.reduceMod, Nat.reduceDiv, ↓reduceIte, reduceCtorEq, ir42]
  refine GCall.of (at_bad hx (fun b hb => .inr (hR b hb)) hn) ?_
  rintro v h' ⟨rfl, rfl⟩
  unfold XS.err
  split
  · simp -implicitDefEqProofs (disch := (first | omega | fail)) only [go_sem, Nat.reduceAdd, Nat.reduceSub, Nat.reduceLT, Nat.reduceMod, Nat.reduceDiv, ↓reduceIte, reduceCtorEq]
  · simp -implicitDefEqProofs (disch := (first | omega | fail)) only [go_sem, Nat.reduceAdd, Nat.reduceSub, Nat.reduceLT, Nat.reduceMod, Nat.reduceDiv, ↓reduceIte, reduceCtorEq]
theorem xread_ok {h : Heap} {R W : Set'} {u : UU} (hu : AtU h u) (hR : ∀ b, u.foot b → R b) {a s : Nat} (ha : a < u.X.n) (hs : s < u.X.count a) (ht : u.X.has a s = true) : SF Try.prog 42 [.ptr (some (u.bx, 0)), .int .i64 a, .int .i64 s] h R W fun v h' => ∃ b, v = .tuple [.slice (some (b, 0)) 128 128 true, .int .i64 0] ∧ SecAt h' b (u.D.seen (u.X.first a + s)) ∧ h.n ≤ b ∧ b < h'.n ∧ ∀ b, b < h.n → h'.get b = h.get b := by
  obtain ⟨c, x1, sz, ro, c0, cp, c25⟩ := hu.x.x
  have hf := hu.fit a ha
  have hR1 := hR u.bx (.inr (.inl rfl))
  refine SF.go hm Try.func42 ir42_eq ?_
  simp -implicitDefEqProofs (disch := (first | omega | fail)) only [go_sem, Nat.reduceAdd, Nat.reduceSub, Nat.reduceLT, Nat.reduceMod, Nat.reduceDiv, ↓reduceIte, reduceCtorEq, ir42]
  refine GCall.of (at_ok hu.x (fun b hb => .inr (hR b (.inr hb))) ha hs ht) ?_
  rintro v h' ⟨rfl, rfl⟩
  simp -implicitDefEqProofs (disch := (first | omega | fail)) only [go_sem, Nat.reduceAdd, Nat.reduceSub, Nat.reduceLT, Nat.reduceMod, Nat.reduceDiv, ↓reduceIte, reduceCtorEq, x1, sz, c0, hR1]
  refine GCall.of (read_ok hu.d (fun b hb => .inr (hR b (.inl hb))) (s := u.X.first a + s) (by omega)) ?_
  rintro v h' ⟨b, rfl, h1, h2, h3, h4⟩
  simp -implicitDefEqProofs (disch := (first | omega | fail)) only [go_sem, Nat.reduceAdd, Nat.reduceSub, Nat.reduceLT, Nat.reduceMod, Nat.reduceDiv, ↓reduceIte, reduceCtorEq]
  exact ⟨b, rfl, h1, h2, h3, h4⟩
theorem xwrite_bad {h : Heap} {R W : Set'} {bx bd : Nat} {tb : Nat → Nat} {X : XS} (hx : ExtAt h bx bd tb X) (hR : ∀ b, FootX bx tb X b → R b) {a s : Int} (hn : ¬ X.own a s) (v : V) : SF Try.prog 26 [.ptr (some (bx, 0)), .int .i64 a, .int .i64 s, v] h R W fun r h' => r = .int .i64 (X.err a) ∧ h' = h := by
  refine SF.go hm Try.func26 ir26_eq ?_
  simp -implicitDefEqProofs (disch := (first | omega | fail)) only [go_sem, Nat.reduceAdd, Nat.reduceSub, Nat.reduceLT, Nat.reduceMod, Nat.reduceDiv, ↓reduceIte, reduceCtorEq, ir26]
  refine GCall.of (at_bad hx (fun b hb => .inr (hR b hb)) hn) ?_
  rintro v h' ⟨rfl, rfl⟩
  unfold XS.err
  split
  · simp -implicitDefEqProofs (disch := (first | omega | fail)) only [go_sem, Nat.reduceAdd, Nat.reduceSub, Nat.reduceLT, Nat.reduceMod, Nat.reduceDiv, ↓reduceIte, reduceCtorEq]
  · simp -implicitDefEqProofs (disch := (first | omega | fail)) only [go_sem, Nat.reduceAdd, Nat.reduceSub, Nat.reduceLT, Nat.reduceMod, Nat.reduceDiv, ↓reduceIte, reduceCtorEq]
theorem xwrite_len {h : Heap} {R W : Set'} {u : UU} (hu : AtU h u) (hR : ∀ b, u.foot b → R b) {a s : Nat} (ha : a < u.X.n) (hs : s < u.X.count a) (ht : u.X.has a s = true) {v : V} {m : Nat} (hv : ∀ h, lenV Try.prog 45 v h = some (m, [])) (hm' : m ≠ 128) : SF Try.prog 26 [.ptr (some (u.bx, 0)), .int .i64 a, .int .i64 s, v] h R W fun r h' => r = .int .i64 2 ∧ h' = h := by
  obtain ⟨c, x1, sz, ro, c0, cp, c25⟩ := hu.x.x
  have hR1 := hR u.bx (.inr (.inl rfl))
  refine SF.go hm Try.func26 ir26_eq ?_
  simp -implicitDefEqProofs (disch := (first | omega | fail)) only [go_sem, Nat.reduceAdd, Nat.reduceSub, Nat.reduceLT, Nat.reduceMod, Nat.reduceDiv, ↓reduceIte, reduceCtorEq, ir26]
  refine GCall.of (at_ok hu.x (fun b hb => .inr (hR b (.inr hb))) ha hs ht) ?_
  rintro v h' ⟨rfl, rfl⟩
  simp -implicitDefEqProofs (disch := (first | omega | fail)) only [go_sem, Nat.reduceAdd, Nat.reduceSub, Nat.reduceLT, Nat.reduceMod, Nat.reduceDiv, ↓reduceIte, reduceCtorEq, x1, sz, c0, hR1]
  refine GCall.of (write_len hu.d (.inr (hR _ (.inl (.inl rfl)))) _ hv hm') ?_
  rintro v h' ⟨rfl, rfl⟩
  simp -implicitDefEqProofs (disch := (first | omega | fail)) only [go_sem, Nat.reduceAdd, Nat.reduceSub, Nat.reduceLT, Nat.reduceMod, Nat.reduceDiv, ↓reduceIte, reduceCtorEq]
theorem xwrite_ok {h : Heap} {R W : Set'} {u : UU} (hu : AtU h u) (hR : ∀ b, u.foot b → R b) (hW : ∀ b, u.foot b → W b) {a s : Nat} (ha : a < u.X.n) (hs : s < u.X.count a) (ht : u.X.has a s = true) {v : V} {l : List V} (hv : SecV h v l) (hRv : ∀ b o m cap ex, v = .slice (some (b, o)) m cap ex → R b) (hl : IsSec l) (few : ∀ s, (u.D.pe s).length < 1000000000) : SF Try.prog 26 [.ptr (some (u.bx, 0)), .int .i64 a, .int .i64 s, v] h R W fun r h' => r = .int .i64 0 ∧ ∃ nb, h.n ≤ nb ∧ AtU h' (u.write (u.X.first a + s) nb l) := by
  obtain ⟨c, x1, sz, ro, c0, cp, c25⟩ := hu.x.x
  have hf := hu.fit a ha
  have hR1 := hR u.bx (.inr (.inl rfl))
  refine SF.go hm Try.func26 ir26_eq ?_
  simp -implicitDefEqProofs (disch := (first | omega | fail)) only [go_sem, Nat.reduceAdd, Nat.reduceSub, Nat.reduceLT, Nat.reduceMod, Nat.reduceDiv, ↓reduceIte, reduceCtorEq, ir26]
  refine GCall.of (at_ok hu.x (fun b hb => .inr (hR b (.inr hb))) ha hs ht) ?_
  rintro v h' ⟨rfl, rfl⟩
  simp -implicitDefEqProofs (disch := (first | omega | fail)) only [go_sem, Nat.reduceAdd, Nat.reduceSub, Nat.reduceLT, Nat.reduceMod, Nat.reduceDiv, ↓reduceIte, reduceCtorEq, x1, sz, c0, hR1]
  refine GCall.of (((write_ok (R := R) (W := Foot u.bd u.L u.D) hu.d (fun b hb => hR b (.inl hb)) (fun _ h => h) (s := u.X.first a + s) (by omega) hv hRv hl (few _)).kept).foot (fun _ h => .inr h) (fun b hb => .inr (hW b (.inl hb)))) ?_
  rintro v h2 ⟨⟨rfl, nb, hnb, hd⟩, vf⟩
  simp -implicitDefEqProofs (disch := (first | omega | fail)) only [go_sem, Nat.reduceAdd, Nat.reduceSub, Nat.reduceLT, Nat.reduceMod, Nat.reduceDiv, ↓reduceIte, reduceCtorEq]
  exact ⟨nb, hnb, hu.write vf hd⟩
theorem xflush_bad {h : Heap} {R W : Set'} {bx bd : Nat} {tb : Nat → Nat} {X : XS} (hx : ExtAt h bx bd tb X) (hR : R bx) {a : Int} (ha : ¬ (0 ≤ a ∧ a < X.n)) : SF Try.prog 28 [.ptr (some (bx, 0)), .int .i64 a] h R W fun r h' => r = .int .i64 2 ∧ h' = h := by
  refine SF.go hm Try.func28 ir28_eq ?_
  simp -implicitDefEqProofs (disch := (first | omega | fail)) only [go_sem, Nat.reduceAdd, Nat.reduceSub, Nat.reduceLT, Nat.reduceMod, Nat.reduceDiv, ↓reduceIte, reduceCtorEq, ir28]
  refine GCall.of (of_bad hx (.inr hR) ha) ?_
  rintro v h' ⟨rfl, rfl⟩
  simp -implicitDefEqProofs (disch := (first | omega | fail)) only [go_sem, Nat.reduceAdd, Nat.reduceSub, Nat.reduceLT, Nat.reduceMod, Nat.reduceDiv, ↓reduceIte, reduceCtorEq]
theorem xflush_ok {h : Heap} {R W : Set'} {u : UU} (hu : AtU h u) (hR : ∀ b, u.foot b → R b) (hW : ∀ b, u.foot b → W b) {a : Nat} (ha : a < u.X.n) : SF Try.prog 28 [.ptr (some (u.bx, 0)), .int .i64 a] h R W fun r h' => r = .int .i64 0 ∧ AtU h' (u.flush (u.X.first a) (u.X.count a)) := by
  obtain ⟨c, x1, sz, ro, c0, cp, c25⟩ := hu.x.x
  obtain ⟨p0, p1, xw, p2⟩ := cp a ha
  have hp := hu.x.pos
  have hf := hu.fit a ha
  have hR1 := hR u.bx (.inr (.inl rfl))
  refine SF.go hm Try.func28 ir28_eq ?_
  simp -implicitDefEqProofs (disch := (first | omega | fail)) only [go_sem, Nat.reduceAdd, Nat.reduceSub, Nat.reduceLT, Nat.reduceMod, Nat.reduceDiv, ↓reduceIte, reduceCtorEq, ir28]
  refine GCall.of (of_ok hu.x (.inr hR1) ha) ?_
  rintro v h' ⟨rfl, rfl⟩
  simp -implicitDefEqProofs (disch := (first | omega | fail)) only [go_sem, Nat.reduceAdd, Nat.reduceSub, Nat.reduceLT, Nat.reduceMod, Nat.reduceDiv, ↓reduceIte, reduceCtorEq, x1, sz, c0, p0, p1]
  refine GCallD.of (R' := u.foot) (W' := u.foot) (((flush_ok (R := u.foot) (W := Foot u.bd u.L u.D) hu.d (fun b hb => .inl hb) (fun _ h => h) hf).kept).foot (fun _ h => h) (fun b hb => .inl hb)) ?_
  rintro v h2 ⟨⟨rfl, hd⟩, vf⟩
  simp -implicitDefEqProofs (disch := (first | omega | fail)) only [go_sem, Nat.reduceAdd, Nat.reduceSub, Nat.reduceLT, Nat.reduceMod, Nat.reduceDiv, ↓reduceIte, reduceCtorEq]
  exact ⟨⟨fun _ => .inr hR1, fun _ => .inr hR1, fun _ => .inr hR1, fun b _ hb => .inr (hR b hb), fun b _ hb => .inr (hW b hb)⟩, hu.flush vf hd⟩
end Go.Proofs.Ythdkhbhicimpdaa
namespace Go.Proofs.Ythdkhbhicimpdaa
open Go Go.Vm
attribute [-go_sem] sz_113
theorem size_ok {h : Heap} {R W : Set'} {bd : Nat} {L : DL} {D : DS} (hd : DiskAt h bd L D) (hR : R bd) : SF Try.prog 41 [.ptr (some (bd, 0))] h R W fun v h' => v = .int .i64 D.n ∧ h' = h := by
  obtain ⟨c, h1, sz, _, c0, c1, c2⟩ := hd.d
  refine SF.go hm Try.func41 ir41_eq ?_
  simp -implicitDefEqProofs (disch := (first | omega | fail)) only [go_sem, Nat.reduceAdd, Nat.reduceSub, Nat.reduceLT, Nat.reduceMod, Nat.reduceDiv, ↓reduceIte, reduceCtorEq, ir41]
  refine GCall.of (there_ok hd (.inr hR)) ?_
  rintro v h' ⟨rfl, rfl⟩
  simp -implicitDefEqProofs (disch := (first | omega | fail)) only [go_sem, Nat.reduceAdd, Nat.reduceSub, Nat.reduceLT, Nat.reduceMod, Nat.reduceDiv, ↓reduceIte, reduceCtorEq, h1, sz, c0, hR]
def sumN (q : Nat → Nat) : Nat → Nat
  | 0 => 0
  | k + 1 => sumN q k + q k
theorem sumN_le {q : Nat → Nat} {i : Nat} : ∀ {m : Nat}, i ≤ m → sumN q i ≤ sumN q m
  | 0, h => by rw [show i = 0 by omega]; exact Nat.le_refl _
  | m + 1, h => by
    by_cases e : i = m + 1
    · rw [e]; exact Nat.le_refl _
    · have := sumN_le (q := q) (i := i) (m := m) (by omega)
      simp only [sumN]; omega
def QV (h : Heap) (v : V) (m : Nat) (q : Nat → Nat) : Prop := ∃ b o cap ex c ce, v = .slice (some (b, o)) m cap ex ∧ h.get b = some (.cells c ce) ∧ o + m ≤ c.size ∧ ∀ i, i < m → c.get (o + i) = .int .i64 (q i)
def XS.new (m : Nat) (q : Nat → Nat) : XS := ⟨m, sumN q, q, fun _ _ => false⟩
set_option maxHeartbeats 1000000 in
theorem xnew_ok {h : Heap} {R W : Set'} {bd : Nat} {L : DL} {D : DS} (hd : DiskAt h bd L D) (hR : ∀ b, R b) {v : V} {m : Nat} {q : Nat → Nat} (hq : QV h v m q) (hm1 : 1 ≤ m ∧ m ≤ 8) (hs : sumN q m ≤ D.n) : SF Try.prog 14 [.ptr (some (bd, 0)), v] h R W fun v h' => v = .tuple [.ptr (some (h.n, 0)), .int .i64 0] ∧ ExtAt h' h.n bd (fun a => h.n + 1 + a) (XS.new m q) ∧ ∀ b, b < h.n → h'.get b = h.get b := by
  obtain ⟨b, o, cap, ex, cq, ce, rfl, hb, hsz, hget⟩ := hq
  have hdn := hd.pos
  have hlb := Heap.lt_of_get hb
  have hRb := hR b
  refine SF.go hm Try.func14 ir14_eq ?_
  simp -implicitDefEqProofs (disch := (first | omega | (simp -implicitDefEqProofs only [szs, ne_eq] <;> omega) | fail)) only [go_sem, Nat.reduceAdd, Nat.reduceSub, Nat.reduceLT, Nat.reduceMod, Nat.reduceDiv, ↓reduceIte, reduceCtorEq, ir14]
  refine GCall.of (size_ok hd (.inr (hR _))) ?_
  rintro v h' ⟨rfl, rfl⟩
  simp -implicitDefEqProofs (disch := (first | omega | (simp -implicitDefEqProofs only [szs, ne_eq] <;> omega) | fail)) only [go_sem, Nat.reduceAdd, Nat.reduceSub, Nat.reduceLT, Nat.reduceMod, Nat.reduceDiv, ↓reduceIte, reduceCtorEq]
  refine GLoop.inv hm (fun k f g => f.mks = [] ∧ f.tm.n = 62 ∧ f.tm.get 0 = some (.ptr (some (bd, 0))) ∧ f.tm.get 6 = some (.ptr (some (h'.n, 0))) ∧ f.tm.get 8 = some (.bool false) ∧ f.tm.get 27 = some (.slice (some (b, o)) m cap ex) ∧ f.tm.get 28 = some (.int .i64 m) ∧ (∀ b, b < h'.n → g.get b = h'.get b) ∧ ∃ i : Nat, i + k = m ∧ f.tm.get 29 = some (.int .i64 i) ∧ f.tm.get 7 = some (.int .i64 (sumN q i)) ∧ g.n = h'.n + 1 + i ∧ (∃ c, g.get h'.n = some (.cells c 60) ∧ c.size = 26 ∧ c.ro = false ∧ c.get 0 = .ptr (some (bd, 0)) ∧ c.get 25 = .int .i64 m ∧ (∀ a, i ≤ a → a < 8 → c.get (1 + a * 3) = .int .i64 0 ∧ c.get (1 + a * 3 + 1) = .int .i64 0 ∧ c.get (1 + a * 3 + 2) = .slice none 0 0 true) ∧ ∀ a, a < i → c.get (1 + a * 3) = .int .i64 (sumN q a) ∧ c.get (1 + a * 3 + 1) = .int .i64 (q a) ∧ c.get (1 + a * 3 + 2) = .slice (some (h'.n + 1 + a, 0)) (q a / 64 + 1) (q a / 64 + 1) true) ∧ ∀ a, a < i → g.get (h'.n + 1 + a) = some (.cells (Blk.rep (q a / 64 + 1) [.int .u64 0]) 123)) m ?_ ?_
  · refine ⟨rfl, rfl, by simp -implicitDefEqProofs (disch := (first | omega | (simp -implicitDefEqProofs only [szs, ne_eq] <;> omega) | fail)) only [go_sem, ↓reduceIte], by simp -implicitDefEqProofs (disch := (first | omega | (simp -implicitDefEqProofs only [szs, ne_eq] <;> omega) | fail)) only [go_sem, Nat.reduceSub, Nat.reduceMod, Nat.reduceDiv, ↓reduceIte, reduceCtorEq], by simp -implicitDefEqProofs (disch := (first | omega | (simp -implicitDefEqProofs only [szs, ne_eq] <;> omega) | fail)) only [go_sem, Nat.reduceSub, Nat.reduceMod, Nat.reduceDiv, ↓reduceIte, reduceCtorEq], by simp -implicitDefEqProofs (disch := (first | omega | (simp -implicitDefEqProofs only [szs, ne_eq] <;> omega) | fail)) only [go_sem, Nat.reduceSub, Nat.reduceMod, Nat.reduceDiv, ↓reduceIte, reduceCtorEq], by simp -implicitDefEqProofs (disch := (first | omega | (simp -implicitDefEqProofs only [szs, ne_eq] <;> omega) | fail)) only [go_sem, Nat.reduceSub, Nat.reduceMod, Nat.reduceDiv, ↓reduceIte, reduceCtorEq], fun b hb => by simp -implicitDefEqProofs (disch := (first | omega | (simp -implicitDefEqProofs only [szs, ne_eq] <;> omega) | fail)) only [go_sem], 0, by omega, by simp -implicitDefEqProofs (disch := (first | omega | (simp -implicitDefEqProofs only [szs, ne_eq] <;> omega) | fail)) only [go_sem, Nat.reduceSub, Nat.reduceMod, Nat.reduceDiv, ↓reduceIte, reduceCtorEq]; rfl, by simp -implicitDefEqProofs (disch := (first | omega | (simp -implicitDefEqProofs only [szs, ne_eq] <;> omega) | fail)) only [go_sem, Nat.reduceMod, Nat.reduceDiv, ↓reduceIte, reduceCtorEq]; rfl, by simp, ⟨_, by simp -implicitDefEqProofs (disch := (first | omega | (simp -implicitDefEqProofs only [szs, ne_eq] <;> omega) | fail)) only [go_sem]; rfl, rfl, rfl, ?_, ?_, ?_, fun a ha => by omega⟩, fun a ha => by omega⟩
    · rfl
    · rfl
    · intro a _ ha
      match a, ha with
      | 0, _ => exact ⟨rfl, rfl, rfl⟩
      | 1, _ => exact ⟨rfl, rfl, rfl⟩
      | 2, _ => exact ⟨rfl, rfl, rfl⟩
      | 3, _ => exact ⟨rfl, rfl, rfl⟩
      | 4, _ => exact ⟨rfl, rfl, rfl⟩
      | 5, _ => exact ⟨rfl, rfl, rfl⟩
      | 6, _ => exact ⟨rfl, rfl, rfl⟩
      | 7, _ => exact ⟨rfl, rfl, rfl⟩
  rintro k ⟨⟨n', tr⟩, mks⟩ g ⟨hmk, hn', t0, t6, t8, t27, t28, hold, i, hi, t29, t7, hgn, ⟨c, c1, csz, cro, cc0, cc25, crs, cp⟩, hts⟩
  simp only [Tm.get_mk] at hmk hn' t0 t6 t8 t27 t28 t29 t7
  subst hmk hn'
  have hlc := Heap.lt_of_get c1
  have hb' := (hold _ hlb).trans hb
  by_cases him : i < m
  · have hqi := hget i him
    have h1 : sumN q (i + 1) ≤ sumN q m := sumN_le him
    simp only [sumN] at h1
    have hsh := w_shr6 (q i)
    have hmk : 0 ≤ ((q i / 64 : Nat) : Int) + 1 ∧ ((q i / 64 : Nat) : Int) + 1 ≤ ((q i / 64 : Nat) : Int) + 1 ∧ 8 * (((q i / 64 : Nat) : Int) + 1).toNat ≤ 281474976710656 ∧ ((q i / 64 : Nat) : Int) + 1 ≤ 9223372036854775807 := by omega
    have hmk2 : 8 * (q i / 64 + 1) ≤ 281474976710656 := by omega
    have htn : (((q i / 64 : Nat) : Int) + 1).toNat = q i / 64 + 1 := by omega
    simp -implicitDefEqProofs (disch := (first | omega | (simp -implicitDefEqProofs only [szs, ne_eq] <;> omega) | fail)) only [go_sem, Nat.reduceAdd, Nat.reduceLT, Nat.reduceEqDiff, ↓reduceIte, reduceCtorEq, ir14_l0, t0, t27, t28, t29, hb', hqi, hRb]
    refine GCall.of (size_ok (hd.old hold) (.inr (hR _))) ?_
    rintro v g' ⟨rfl, rfl⟩
    simp -implicitDefEqProofs (disch := (first | omega | (simp -implicitDefEqProofs only [szs, ne_eq] <;> omega) | fail)) only [go_sem, Nat.reduceAdd, Nat.reduceLT, Nat.reduceEqDiff, Nat.reduceLeDiff, ↓reduceIte, reduceCtorEq, t0, t6, t8, t27, t28, t29, t7, ↓hsh, hmk, hmk2, htn, c1, csz, cro]
    simp only [List.not_mem_nil, or_false, false_or, and_false, implies_true, not_false_eq_true, and_true, true_and]
    refine ⟨k - 1, by omega, fun b hb => by simp -implicitDefEqProofs (disch := (first | omega | (simp -implicitDefEqProofs only [szs, ne_eq] <;> omega) | fail)) only [go_sem]; exact hold b hb, i + 1, by omega, congrArg _ (by omega), congrArg _ (by simp only [sumN]; omega), by omega, ⟨_, rfl, by rw [Blk.size_set, Blk.size_set, Blk.size_set]; exact csz, by rw [Blk.ro_set, Blk.ro_set, Blk.ro_set]; exact cro, ?_, ?_, fun a ha ha8 => ?_, fun a ha => ?_⟩, fun a ha => ?_⟩
    · simp -implicitDefEqProofs (disch := (first | omega | (simp -implicitDefEqProofs only [szs, ne_eq] <;> omega) | fail)) only [go_sem]; exact cc0
    · simp -implicitDefEqProofs (disch := (first | omega | (simp -implicitDefEqProofs only [szs, ne_eq] <;> omega) | fail)) only [go_sem]; exact cc25
    · obtain ⟨p0, p1, p2⟩ := crs a (by omega) ha8
      simp -implicitDefEqProofs (disch := (first | omega | (simp -implicitDefEqProofs only [szs, ne_eq] <;> omega) | fail)) only [go_sem]
      exact ⟨p0, p1, p2⟩
    · by_cases e : a = i
      · subst e
        simp -implicitDefEqProofs (disch := (first | omega | (simp -implicitDefEqProofs only [szs, ne_eq] <;> omega) | fail)) only [go_sem, hgn]
      · obtain ⟨p0, p1, p2⟩ := cp a (by omega)
        simp -implicitDefEqProofs (disch := (first | omega | (simp -implicitDefEqProofs only [szs, ne_eq] <;> omega) | fail)) only [go_sem]
        exact ⟨p0, p1, p2⟩
    · by_cases e : a = i
      · subst e
        simp -implicitDefEqProofs (disch := (first | omega | (simp -implicitDefEqProofs only [szs, ne_eq] <;> omega) | fail)) only [go_sem]
      · simp -implicitDefEqProofs (disch := (first | omega | (simp -implicitDefEqProofs only [szs, ne_eq] <;> omega) | fail)) only [go_sem]
        exact hts a (by omega)
  · have : i = m := by omega
    subst this
    simp -implicitDefEqProofs (disch := (first | omega | (simp -implicitDefEqProofs only [szs, ne_eq] <;> omega) | fail)) only [go_sem, Nat.reduceAdd, Nat.reduceLT, Nat.reduceEqDiff, ↓reduceIte, ir14_l0, t6, t8, t28, t29]
    refine ⟨⟨hm1, ⟨c, c1, csz, cro, cc0, fun a ha => ⟨(cp a ha).1, (cp a ha).2.1, true, (cp a ha).2.2⟩, cc25⟩, fun a ha => ⟨_, hts a ha, rfl, rfl, fun k hk => ⟨0#64, ?_, fun j hj => by simp [XS.new]⟩⟩, fun a a' _ _ h => by omega, fun a ha => ?_, ⟨c, c1, crs⟩⟩, hold⟩
    · rw [rep_get, show k % [V.int IntKind.u64 0].length = 0 from Nat.mod_one k]; rfl
    · have := sumN_le (q := q) (i := a + 1) (m := i) ha
      simp only [XS.new, sumN] at this ⊢
      omega
end Go.Proofs.Ythdkhbhicimpdaa
