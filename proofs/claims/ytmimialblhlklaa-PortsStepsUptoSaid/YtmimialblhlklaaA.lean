/- Ports: where they lie; there, account, get, filters checked and cloned. -/
import Derived.Test.YtmimialblhlklaaTy
import Derived.Test.YtmimialblhlklaaIr
import Derived.Test.YtmimialblhlklaaV4
import Derived.IntWalk
set_option linter.unusedVariables false
set_option maxRecDepth 100000
namespace Go.Proofs.Ytmimialblhlklaa
open Go Go.Vm
structure Te where
 at' : Int
 mask : Int
 val : Int
deriving DecidableEq
def Te.l (t : Te) : List V := [.int .i64 t.at', .int .i64 t.mask, .int .i64 t.val]
def flatT (L : List Te) : List V := L.flatMap Te.l
theorem flatT_len (L : List Te) : (flatT L).length = L.length * 3 := by
 induction L with
 | nil => rfl
 | cons t L ih => simp only [flatT, List.flatMap_cons, List.length_append, List.length_cons] at ih ⊢; rw [ih]; simp [Te.l]; omega
theorem flatT_get : ∀ {L : List Te} {p : Nat} {t : Te}, L[p]? = some t → ∀ {j : Nat}, j < 3 → (flatT L).getD (p * 3 + j) undefV = t.l.getD j undefV
 | [], p, t, h, j, hj => by simp at h
 | x :: L, 0, t, h, j, hj => by
  simp at h; subst h
  simp only [flatT, List.flatMap_cons, Nat.zero_mul, Nat.zero_add]
  rw [List.getD_eq_getElem?_getD, List.getElem?_append_left (by simp [Te.l]; omega), ← List.getD_eq_getElem?_getD]
 | x :: L, p + 1, t, h, j, hj => by
  simp only [List.getElem?_cons_succ] at h
  have ih := flatT_get h hj
  simp only [flatT, List.flatMap_cons] at ih ⊢
  rw [List.getD_eq_getElem?_getD, List.getElem?_append_right (by simp [Te.l]; omega), ← List.getD_eq_getElem?_getD]
  have : (p + 1) * 3 + j - x.l.length = p * 3 + j := by simp [Te.l]; omega
  rw [this]; exact ih
def TestsV (h : Heap) (R : Set') (v : V) (L : List Te) : Prop := LRs 3 h R v L.length (flatT L)
theorem TestsV.get {h : Heap} {R : Set'} {v : V} {L : List Te} (hv : TestsV h R v L) {p : Nat} {t : Te} (hp : L[p]? = some t) : ∃ b o cap ex c ce, v = .slice (some (b, o)) L.length cap ex ∧ R b ∧ h.get b = some (.cells c ce) ∧ o + L.length * 3 ≤ c.size ∧ c.get (o + p * 3) = .int .i64 t.at' ∧ c.get (o + p * 3 + 1) = .int .i64 t.mask ∧ c.get (o + p * 3 + 2) = .int .i64 t.val := by
 have hl := (List.getElem?_eq_some_iff.1 hp).1
 obtain ⟨b, o, cap, ex, c, ce, rfl, hR, hb, hs, hg⟩ := LRs.get hv (by omega)
 have g : ∀ j, j < 3 → c.get (o + p * 3 + j) = t.l.getD j undefV := fun j hj => by
  rw [Nat.add_assoc, hg _ (by omega), flatT_get hp hj]
 exact ⟨b, o, cap, ex, c, ce, rfl, hR, hb, hs, g 0 (by omega), g 1 (by omega), g 2 (by omega)⟩
theorem TestsV.old {h h' : Heap} {R : Set'} {v : V} {L : List Te} (hv : TestsV h R v L) (hk : ∀ b, b < h.n → h'.get b = h.get b) : TestsV h' R v L := LRs.old hv hk
structure Pt where
 ts : List Te
 ring : List (List V)
 lost : Int
structure PortAt (h : Heap) (I : Set') (b : Nat) (x : Pt) : Prop where
 c : ∃ (c : Blk) (f : Nat), h.get b = some (.cells c 82) ∧ c.size = 12 ∧ c.ro = false ∧ TestsV h I (c.get 0) x.ts ∧ f < 8 ∧ c.get 9 = .int .i64 (f : Int) ∧ c.get 10 = .int .i64 (x.ring.length : Int) ∧ c.get 11 = .int .i64 x.lost ∧
  (∀ i, i < x.ring.length → LR h I (c.get (1 + (f + i) % 8)) (x.ring.getD i [])) ∧ ∀ j, j < 8 → ∃ l, LR h I (c.get (1 + j)) l
 len : x.ring.length ≤ 8
abbrev PT := Nat → Nat → Option (Nat × Pt)
def lookT (T : PT) (a n : Int) : Option (Nat × Pt) := if 0 ≤ a ∧ 0 ≤ n then T a.toNat n.toNat else none
def MutB (mp : Nat) (T : PT) : Set' := fun b => b = mp ∨ ∃ a n x, T a n = some (b, x)
structure PortsAt (h : Heap) (I : Set') (pp mp : Nat) (qs : List Nat) (T : PT) : Prop where
 c : ∃ c, h.get pp = some (.cells c 68) ∧ c.size = 2 ∧ c.get 1 = .map (some mp) ∧ LR h I (c.get 0) (qs.map fun n : Nat => .int .i64 (n : Int))
 ip : I pp
 m : ∃ es ck, h.get mp = some (.map es ck) ∧ PMap es ck ∧ (∀ k : Int × Int, getP es k = (lookT T k.1 k.2).map fun x => .ptr (some (x.1, 0)))
 pt : ∀ a n b x, T a n = some (b, x) → PortAt h I b x
 inj : ∀ a n b x a' n' x', T a n = some (b, x) → T a' n' = some (b, x') → a = a' ∧ n = n'
 dom : ∀ a n x, T a n = some x → ∃ q, qs[a]? = some q ∧ n < q
 qs : 0 < qs.length ∧ qs.length ≤ 8 ∧ ∀ q ∈ qs, q ≤ 16
 imm : ∀ b, I b → ∃ c e, h.get b = some (.cells c e) ∧ e ≠ 82 ∧ e ≠ 109
theorem PortAt.same {h h' : Heap} {I : Set'} {b : Nat} {x : Pt} (hp : PortAt h I b x) (hb : h'.get b = h.get b) (hk : ∀ b, I b → b < h.n → h'.get b = h.get b) : PortAt h' I b x := by
 obtain ⟨⟨c, f, c1, c2, c3, c4, c5, c6, c7, c8, c9, c10⟩, hl⟩ := hp
 exact ⟨⟨c, f, by rw [hb]; exact c1, c2, c3, LRs.same c4 hk, c5, c6, c7, c8, fun i hi => (c9 i hi).same hk, fun j hj => (c10 j hj).imp fun l hl => hl.same hk⟩, hl⟩
theorem PortAt.lt {h : Heap} {I : Set'} {b : Nat} {x : Pt} (hp : PortAt h I b x) : b < h.n := by obtain ⟨c, f, c1, _⟩ := hp.c; exact Heap.lt_of_get c1
theorem PortsAt.same {h h' : Heap} {I : Set'} {pp mp : Nat} {qs : List Nat} {T : PT} (hp : PortsAt h I pp mp qs T) (hk : ∀ b, I b ∨ MutB mp T b → b < h.n → h'.get b = h.get b) : PortsAt h' I pp mp qs T := by
 obtain ⟨⟨c, c1, c2, c3, c4⟩, ip, ⟨es, ck, m1, m2, m3⟩, pt, inj, dom, hq, imm⟩ := hp
 have hI : ∀ b, I b → b < h.n → h'.get b = h.get b := fun b hb => hk b (.inl hb)
 refine ⟨⟨c, by rw [hI _ ip (Heap.lt_of_get c1)]; exact c1, c2, c3, c4.same hI⟩, ip, ⟨es, ck, by rw [hk _ (.inr (.inl rfl)) (Heap.lt_of_get m1)]; exact m1, m2, m3⟩, fun a n b x e => (pt a n b x e).same (hk b (.inr (.inr ⟨a, n, x, e⟩)) (pt a n b x e).lt) hI, inj, dom, hq, fun b hb => ?_⟩
 obtain ⟨c', e, h1, h2⟩ := imm b hb
 exact ⟨c', e, by rw [hI b hb (Heap.lt_of_get h1)]; exact h1, h2⟩
theorem PortsAt.old {h h' : Heap} {I : Set'} {pp mp : Nat} {qs : List Nat} {T : PT} (hp : PortsAt h I pp mp qs T) (hk : ∀ b, b < h.n → h'.get b = h.get b) : PortsAt h' I pp mp qs T := hp.same fun b _ hb => hk b hb
theorem PortsAt.lt {h : Heap} {I : Set'} {pp mp : Nat} {qs : List Nat} {T : PT} (hp : PortsAt h I pp mp qs T) : pp < h.n ∧ mp < h.n := by
 obtain ⟨c, c1, _⟩ := hp.c
 obtain ⟨es, ck, m1, _⟩ := hp.m
 exact ⟨Heap.lt_of_get c1, Heap.lt_of_get m1⟩
theorem pk_75 : PK Try.prog 75 := ⟨fun a b => by
  have e : eqD Try.prog 10 75 (kp a) (kp b) = (match (a.1 == b.1) with | true => (match (a.2 == b.2) with | true => some true | false => some false) | false => some false) := by kernel_rfl
  rw [e]
  by_cases h1 : a.1 = b.1
  ·by_cases h2 : a.2 = b.2
   ·have : a = b := Prod.ext h1 h2
    subst this; simp only [beq_self_eq_true, decide_true]
   ·have h3 : (a.2 == b.2) = false := by simpa using h2
    rw [h1, h3, decide_eq_false fun h => h2 (by rw [h])]; simp only [beq_self_eq_true]
  ·have h3 : (a.1 == b.1) = false := by simpa using h1
   rw [h3, decide_eq_false fun h => h1 (by rw [h])], fun a => by kernel_rfl, ⟨_, Try.underlying75⟩⟩
theorem PortsAt.look {h : Heap} {I : Set'} {pp mp : Nat} {qs : List Nat} {T : PT} (hp : PortsAt h I pp mp qs T) (a n : Int) : lookV Try.prog 66 h (.map (some mp)) (.agg [.int .i64 a, .int .i64 n]) false = some (((lookT T a n).map fun x => V.ptr (some (x.1, 0))).getD (.ptr none), [mp]) := by
 obtain ⟨es, ck, m1, m2, m3⟩ := hp.m
 rw [← m3 (a, n)]
 exact look_pair (k := (a, n)) Try.underlying66 pk_75 (by kernel_rfl) m1 m2
def okA (qs : List Nat) (a : Int) : Prop := 0 ≤ a ∧ a < (qs.length : Int)
instance (qs : List Nat) (a : Int) : Decidable (okA qs a) := by unfold okA; infer_instance
theorem there_ok {h : Heap} {R W I : Set'} {pp mp : Nat} {qs : List Nat} {T : PT} (hp : PortsAt h I pp mp qs T) (hR : R pp) : SF Try.prog 33 [.ptr (some (pp, 0))] h R W fun v h' => v = .bool true ∧ h' = h := by
 obtain ⟨c, c1, c2, c3, c4⟩ := hp.c
 refine SF.go hm Try.func33 ir33_eq ?_
 simp -implicitDefEqProofs (disch := (first | omega | fail)) only [go_sem, seval, ↓reduceIte, reduceCtorEq, ir33, c1, c2, c3, hR]
theorem account_ok {h : Heap} {R W I : Set'} {pp mp : Nat} {qs : List Nat} {T : PT} (hp : PortsAt h I pp mp qs T) (hR : R pp) (a : Int) : SF Try.prog 30 [.ptr (some (pp, 0)), .int .i64 a] h R W fun v h' => v = .int .i64 (if okA qs a then 0 else 2) ∧ h' = h := by
 obtain ⟨c, c1, c2, c3, c4⟩ := hp.c
 have hlen := c4.lenV Try.underlying30
 rw [List.length_map] at hlen
 refine SF.go hm Try.func30 ir30_eq ?_
 simp -implicitDefEqProofs (disch := (first | omega | fail)) only [go_sem, seval, ↓reduceIte, reduceCtorEq, ir30]
 refine GCall.of (there_ok hp (.inr hR)) ?_
 rintro v h1 ⟨rfl, rfl⟩
 by_cases h0 : a < 0
 ·simp -implicitDefEqProofs (disch := (first | omega | fail)) only [go_sem, seval, ↓reduceIte, reduceCtorEq, undefV]
  rw [if_neg (by unfold okA; omega)]
 ·by_cases h1 : a < (qs.length : Int)
  ·simp -implicitDefEqProofs (disch := (first | omega | fail)) only [go_sem, seval, ↓reduceIte, reduceCtorEq, c1, c2, ↓hlen, hR]
   rw [if_pos (by unfold okA; omega)]
  ·simp -implicitDefEqProofs (disch := (first | omega | fail)) only [go_sem, seval, ↓reduceIte, reduceCtorEq, c1, c2, ↓hlen, hR]
   rw [if_neg (by unfold okA; omega)]
def getV (qs : List Nat) (T : PT) (a n : Int) : V := if okA qs a then (match lookT T a n with | some x => .tuple [.ptr (some (x.1, 0)), .int .i64 0] | none => .tuple [.ptr none, .int .i64 6]) else .tuple [.ptr none, .int .i64 2]
theorem get_ok {h : Heap} {R W I : Set'} {pp mp : Nat} {qs : List Nat} {T : PT} (hp : PortsAt h I pp mp qs T) (hR : R pp) (hRm : R mp) (a n : Int) : SF Try.prog 37 [.ptr (some (pp, 0)), .int .i64 a, .int .i64 n] h R W fun v h' => v = getV qs T a n ∧ h' = h := by
 obtain ⟨c, c1, c2, c3, c4⟩ := hp.c
 have hlk := hp.look a n
 refine SF.go hm Try.func37 ir37_eq ?_
 simp -implicitDefEqProofs (disch := (first | omega | fail)) only [go_sem, seval, ↓reduceIte, reduceCtorEq, ir37]
 refine GCall.of (account_ok hp (.inr hR) a) ?_
 rintro v h1 ⟨rfl, rfl⟩
 unfold getV
 by_cases ha : okA qs a
 ·rw [if_pos ha, if_pos ha]
  cases hl : lookT T a n with
  | none =>
   rw [hl, Option.map_none, Option.getD_none] at hlk
   simp -implicitDefEqProofs (disch := (first | omega | fail)) only [go_sem, seval, ↓reduceIte, reduceCtorEq, c1, c2, c3, hR, hRm, hlk, Option.isNone_none]
  | some x =>
   rw [hl, Option.map_some, Option.getD_some] at hlk
   simp -implicitDefEqProofs (disch := (first | omega | fail)) only [go_sem, seval, ↓reduceIte, reduceCtorEq, c1, c2, c3, hR, hRm, hlk]
 ·rw [if_neg ha, if_neg ha]
  simp -implicitDefEqProofs (disch := (first | omega | fail)) only [go_sem, seval, ↓reduceIte, reduceCtorEq]
end Go.Proofs.Ytmimialblhlklaa
