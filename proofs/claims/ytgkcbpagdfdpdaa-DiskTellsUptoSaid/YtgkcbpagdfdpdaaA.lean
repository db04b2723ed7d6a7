/- A disk: where it lies. -/
import Derived.Test.YtgkcbpagdfdpdaaTy
import Derived.Test.YtgkcbpagdfdpdaaIr
import Derived.Test.YtgkcbpagdfdpdaaV4
set_option linter.unusedVariables false
set_option linter.unusedSimpArgs false
set_option linter.unusedSimpArgs false
set_option maxRecDepth 100000
set_option linter.unusedVariables false
set_option linter.unusedSimpArgs false
namespace Go.Vm
theorem Blk.gets_ext {c : Blk} {o : Nat} {l : List V} (h : ∀ j, j < l.length → c.get (o + j) = l.getD j undefV) {n : Nat} (hn : n = l.length) : c.gets o n = l := by
  subst hn
  apply List.ext_getElem?
  intro j
  by_cases hj : j < l.length
  · rw [Blk.gets_get _ _ _ _ hj, h j hj, List.getElem?_eq_getElem hj]
    simp [List.getD, hj]
  · rw [List.getElem?_eq_none (by rw [Blk.length_gets]; omega), List.getElem?_eq_none (by omega)]
theorem Blk.gets_putA_same {c : Blk} {o n : Nat} {l : List V} (hn : n = l.length) (hs : o + l.length ≤ c.size) : (c.putA o l).gets o n = l :=
  Blk.gets_ext (fun j hj => by rw [Blk.get_putA _ _ _ _ (by omega), if_pos (by omega), show o + j - o = j by omega]) hn
theorem Blk.gets_putA_ne {c : Blk} {o p n : Nat} {l : List V} (hs : p + n ≤ c.size) (hd : p + n ≤ o ∨ o + l.length ≤ p) : (c.putA o l).gets p n = c.gets p n := by
  refine Blk.gets_ext (fun j hj => ?_) (by rw [Blk.length_gets])
  rw [Blk.length_gets] at hj
  rw [Blk.get_putA _ _ _ _ (by omega), if_neg (by omega), List.getD_eq_getElem?_getD, Blk.gets_get _ _ _ _ hj, Option.getD_some]
end Go.Vm
namespace Go.Proofs.Ytgkcbpagdfdpdaa
open Go Go.Vm
attribute [-go_sem] sz_67

/-- A sector's cells. -/
def secN : Nat := 128
theorem secN_eq : secN = 128 := rfl
theorem sz67 : szV Try.prog 67 = some secN := sz_67
def IsSec (l : List V) : Prop := l.length = secN ∧ ∀ v ∈ l, ∃ n : Int, v = .int .u8 n ∧ 0 ≤ n ∧ n ≤ 255
theorem IsSec.one {l : List V} (h : IsSec l) : allOne l = true := by
  have : ∀ l : List V, (∀ v ∈ l, ∃ n : Int, v = .int .u8 n ∧ 0 ≤ n ∧ n ≤ 255) → allOne l = true := by
    intro l
    induction l with
    | nil => intro _; rfl
    | cons v r ih =>
      intro h
      obtain ⟨n, rfl, _⟩ := h v (by simp)
      exact ih fun v hv => h v (by simp [hv])
  exact this l h.2
structure DS where
  n : Nat
  fl : Nat → List V
  pe : Nat → List (List V)
  wr : Int
structure DL where
  fb : Nat
  mb : Nat
  pb : Nat → Nat
  cap : Nat
  ex : Bool
/-- What is pending, in the map. -/
structure PendAt (h : Heap) (bd : Nat) (L : DL) (D : DS) (es : Ents) : Prop where
  has : ∀ x : Nat, getI es x = if D.pe x = [] then none else some (.slice (some (L.pb x, 0)) (D.pe x).length (D.pe x).length false)
  neg : ∀ x : Int, x < 0 → getI es x = none
  blk : ∀ x, D.pe x ≠ [] → h.get (L.pb x) = some (.cells (Blk.of (D.pe x).flatten) 67) ∧ L.pb x ≠ bd ∧ L.pb x ≠ L.fb ∧ L.pb x ≠ L.mb
  inj : ∀ x y, D.pe x ≠ [] → D.pe y ≠ [] → x ≠ y → L.pb x ≠ L.pb y
structure DiskAt (h : Heap) (bd : Nat) (L : DL) (D : DS) : Prop where
  pos : 1 ≤ D.n ∧ D.n ≤ 4096
  d : ∃ c, h.get bd = some (.cells c 54) ∧ c.size = 3 ∧ c.ro = false ∧ c.get 0 = .slice (some (L.fb, 0)) D.n L.cap L.ex ∧ c.get 1 = .map (some L.mb) ∧ c.get 2 = .int .i64 D.wr
  f : ∃ c, h.get L.fb = some (.cells c 67) ∧ c.size = D.n * 128 ∧ c.ro = false ∧ ∀ s, s < D.n → c.gets (s * 128) secN = D.fl s
  m : ∃ es ck, h.get L.mb = some (.map es ck) ∧ IMap es ck ∧ PendAt h bd L D es
  fl : ∀ s, s < D.n → IsSec (D.fl s)
  pe : ∀ s, ∀ l ∈ D.pe s, IsSec l
  out : ∀ s, D.n ≤ s → D.pe s = []
  few : ∀ s, (D.pe s).length ≤ 1000000000
theorem there_ok {h : Heap} {R W : Set'} {bd : Nat} {L : DL} {D : DS} (hd : DiskAt h bd L D) (hR : R bd) : SF Try.prog 29 [.ptr (some (bd, 0))] h R W fun v h' => v = .bool true ∧ h' = h := by
  obtain ⟨c, h1, hs, _, c0, _⟩ := hd.d
  have hp := hd.pos
  refine SF.go hm Try.func29 ir29_eq ?_
  simp -implicitDefEqProofs (disch := (first | omega | (simp -implicitDefEqProofs only [szs, ne_eq] <;> omega) | fail)) only [go_sem, Nat.reduceAdd, Nat.reduceSub, Nat.reduceMul, Nat.reduceLT, Nat.reduceMod, Nat.reduceDiv, Nat.reduceEqDiff, Nat.reduceBEq, Nat.reduceLeDiff, ↓reduceIte, reduceCtorEq, Int.reduceAdd, Int.reduceSub, Int.reduceLT, Int.reduceLE, Int.reduceBEq, Int.reduceEq, Int.reduceToNat, ir29, h1, c0, hR]
def askV (D : DS) (k : Int) : Int := if 0 ≤ k ∧ k < D.n then 0 else 2
theorem ask_ok {h : Heap} {R W : Set'} {bd : Nat} {L : DL} {D : DS} (hd : DiskAt h bd L D) (hR : R bd) (k : Int) : SF Try.prog 28 [.ptr (some (bd, 0)), .int .i64 k] h R W fun v h' => v = .int .i64 (askV D k) ∧ h' = h := by
  obtain ⟨c, h1, hs, _, c0, _⟩ := hd.d
  have hp := hd.pos
  refine SF.go hm Try.func28 ir28_eq ?_
  simp -implicitDefEqProofs (disch := (first | omega | (simp -implicitDefEqProofs only [szs, ne_eq] <;> omega) | fail)) only [go_sem, Nat.reduceAdd, Nat.reduceSub, Nat.reduceMul, Nat.reduceLT, Nat.reduceMod, Nat.reduceDiv, Nat.reduceEqDiff, Nat.reduceBEq, Nat.reduceLeDiff, ↓reduceIte, reduceCtorEq, Int.reduceAdd, Int.reduceSub, Int.reduceLT, Int.reduceLE, Int.reduceBEq, Int.reduceEq, Int.reduceToNat, ir28]
  refine GCall.of (there_ok hd (.inr hR)) ?_
  rintro v h' ⟨rfl, rfl⟩
  by_cases hk : 0 ≤ k
  · by_cases hk2 : k < D.n
    · have e : askV D k = 0 := if_pos ⟨hk, hk2⟩
      simp -implicitDefEqProofs (disch := (first | omega | (simp -implicitDefEqProofs only [szs, ne_eq] <;> omega) | fail)) only [go_sem, Nat.reduceAdd, Nat.reduceSub, Nat.reduceMul, Nat.reduceLT, Nat.reduceMod, Nat.reduceDiv, Nat.reduceEqDiff, Nat.reduceBEq, Nat.reduceLeDiff, ↓reduceIte, reduceCtorEq, Int.reduceAdd, Int.reduceSub, Int.reduceLT, Int.reduceLE, Int.reduceBEq, Int.reduceEq, Int.reduceToNat, h1, c0, hR, undefV, e]
    · have e : askV D k = 2 := if_neg (by omega)
      simp -implicitDefEqProofs (disch := (first | omega | (simp -implicitDefEqProofs only [szs, ne_eq] <;> omega) | fail)) only [go_sem, Nat.reduceAdd, Nat.reduceSub, Nat.reduceMul, Nat.reduceLT, Nat.reduceMod, Nat.reduceDiv, Nat.reduceEqDiff, Nat.reduceBEq, Nat.reduceLeDiff, ↓reduceIte, reduceCtorEq, Int.reduceAdd, Int.reduceSub, Int.reduceLT, Int.reduceLE, Int.reduceBEq, Int.reduceEq, Int.reduceToNat, h1, c0, hR, undefV, e]
  · have e : askV D k = 2 := if_neg (by omega)
    simp -implicitDefEqProofs (disch := (first | omega | (simp -implicitDefEqProofs only [szs, ne_eq] <;> omega) | fail)) only [go_sem, Nat.reduceAdd, Nat.reduceSub, Nat.reduceMul, Nat.reduceLT, Nat.reduceMod, Nat.reduceDiv, Nat.reduceEqDiff, Nat.reduceBEq, Nat.reduceLeDiff, ↓reduceIte, reduceCtorEq, Int.reduceAdd, Int.reduceSub, Int.reduceLT, Int.reduceLE, Int.reduceBEq, Int.reduceEq, Int.reduceToNat, h1, c0, hR, undefV, e]
end Go.Proofs.Ytgkcbpagdfdpdaa
