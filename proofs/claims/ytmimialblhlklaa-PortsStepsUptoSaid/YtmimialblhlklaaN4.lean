/- The document's ports: Come. -/
import Derived.Test.YtmimialblhlklaaRC
set_option linter.unusedVariables false
set_option maxRecDepth 100000
namespace Go.Proofs.Ytmimialblhlklaa
open Go Go.Vm
variable {h : Heap} {R W I : Set'} {rd : Nat} {bl : Nat → Nat} {qs : List Nat} {S : AT}
theorem openP_all (hr : RPorts h I rd bl qs S) {i q : Nat} (hq : qs[i]? = some q) : openP S i q = openA S (i : Int) := by
 rw [← hr.upto hq]
 unfold openP
 simp only [lookA_cast]
theorem openA_out (hr : RPorts h I rd bl qs S) {a : Int} (ha : ¬ okA qs a) : openA S a = [] := by
 unfold openA
 rw [List.filter_eq_nil_iff]
 intro n _ h
 rw [hr.oob ha] at h; cases h
set_option maxHeartbeats 4000000 in
theorem rcome_ok {S0 : Set'} {v : V} {l : List V} (hr : RPorts h I rd bl qs S) (h8 : ∀ a n x, S a n = some x → x.ring.length ≤ 8 ∧ okF x.ts) (hv : LR h S0 v l) (hS0 : ∀ k, S0 k → k < h.n ∧ ∀ a, a < qs.length → k ≠ bl a) (hby : Byt l) (hR : ∀ b, R b) (hW : ∀ a, a < qs.length → W (bl a)) : SF Try.prog 44 [.ptr (some (rd, 0)), v] h R W fun r g => ∃ w, r = .tuple [w, .int .i64 (comeE l)] ∧ RC h I rd bl qs (comeA S l) w (comeLA S l) g := by
 have hlen := hv.lenV Try.underlying36
 refine SF.go hm Try.func44 ir44_eq ?_
 by_cases h64 : 64 < (l.length : Int)
 ·have h64' : 64 < l.length := by omega
  simp -implicitDefEqProofs (disch := (first | omega | fail)) only [go_sem, seval, ↓reduceIte, reduceCtorEq, ir44, ↓hlen, h64]
  unfold comeE comeA comeLA
  rw [if_pos h64', if_pos h64', if_pos h64']
  exact ⟨_, rfl, ⟨Nat.le_refl _, fun _ _ _ => rfl, ⟨I, hr, fun _ h => .inl h⟩, OwnS.nil _ _ _ _⟩⟩
 have h64' : ¬ 64 < l.length := by omega
 have eE : comeE l = 0 := by unfold comeE; rw [if_neg h64']
 rw [eE]
 simp -implicitDefEqProofs (disch := (first | omega | fail)) only [go_sem, seval, ↓reduceIte, reduceCtorEq, ir44, ↓hlen, h64]
 refine GCall.of (rhome_ok hv hby (fun b => .inr (hR b))) ?_
 rintro r g ⟨rfl, rfl⟩
 unfold homeV
 cases hh : homeP l with
 | none =>
  have e1 : comeA S l = S := by unfold comeA; rw [if_neg h64', hh]
  have e2 : comeLA S l = [] := by unfold comeLA; rw [if_neg h64', hh]
  rw [e1, e2]
  simp -implicitDefEqProofs (disch := (first | omega | fail)) only [go_sem, seval, ↓reduceIte, reduceCtorEq]
  refine GLoop.inv hm (fun k f g' => f.mks = [] ∧ f.tm.n = 105 ∧ f.tm.get 7 = some (.bool false) ∧ f.tm.get 8 = some (.slice none 0 0 true) ∧ g' = g) 1 ?_ ?_
  ·exact ⟨rfl, rfl, by simp -implicitDefEqProofs (disch := (first | omega | fail)) only [go_sem, seval, ↓reduceIte, reduceCtorEq], by simp -implicitDefEqProofs (disch := (first | omega | fail)) only [go_sem, seval, ↓reduceIte, reduceCtorEq], rfl⟩
  rintro k ⟨⟨n', tr⟩, mks⟩ g' ⟨hmk, hn', t7, t8, rfl⟩
  simp only [Tm.get_mk] at hmk hn' t7 t8
  subst hmk hn'
  simp -implicitDefEqProofs (disch := (first | omega | fail)) only [go_sem, seval, ↓reduceIte, ir44_l0, undefV, t7, t8]
  exact ⟨_, rfl, ⟨Nat.le_refl _, fun _ _ _ => rfl, ⟨I, hr, fun _ h => .inl h⟩, OwnS.nil _ _ _ _⟩⟩
 | some i =>
  have e1 : comeA S l = comeS S i l (openA S (i : Int)) := by unfold comeA; rw [if_neg h64', hh]
  have e2 : comeLA S l = comeP S i l (openA S (i : Int)) := by unfold comeLA; rw [if_neg h64', hh]
  rw [e1, e2]
  simp -implicitDefEqProofs (disch := (first | omega | fail)) only [go_sem, seval, ↓reduceIte, reduceCtorEq]
  by_cases ha : okA qs (i : Int)
  ·have hi : i < qs.length := by have := ha.2; omega
   have hq : qs[i]? = some qs[i] := List.getElem?_eq_getElem hi
   generalize qs[i] = q at hq
   have hl0 : 0 < l.length := by
    cases l with
    | nil => cases hh
    | cons => simp
   refine rcome_loop (q := q) hr h8 hv hS0 hby hl0 (by omega) hR hW hq (by simp -implicitDefEqProofs (disch := (first | omega | fail)) only [go_sem, seval, ↓reduceIte]) (by simp -implicitDefEqProofs (disch := (first | omega | fail)) only [go_sem, seval, ↓reduceIte, reduceCtorEq]) (by simp -implicitDefEqProofs (disch := (first | omega | fail)) only [go_sem, seval, ↓reduceIte, reduceCtorEq]) (by simp -implicitDefEqProofs (disch := (first | omega | fail)) only [go_sem, seval, ↓reduceIte, reduceCtorEq]) (by simp -implicitDefEqProofs (disch := (first | omega | fail)) only [go_sem, seval, ↓reduceIte, reduceCtorEq]) (by simp -implicitDefEqProofs (disch := (first | omega | fail)) only [go_sem, seval, ↓reduceIte, reduceCtorEq]) ?_
   rw [openP_all hr hq]
   intro tr' w' g' t8 hc
   simp -implicitDefEqProofs (disch := (first | omega | fail)) only [go_sem, seval, ↓reduceIte, t8]
   exact ⟨_, rfl, hc⟩
  ·rw [openA_out hr ha, comeS_nil]
   refine GLoop.inv hm (fun k f g' => f.mks = [] ∧ f.tm.n = 105 ∧ f.tm.get 0 = some (.ptr (some (rd, 0))) ∧ f.tm.get 6 = some (.int .i64 (i : Int)) ∧ f.tm.get 7 = some (.bool true) ∧ f.tm.get 8 = some (.slice none 0 0 true) ∧ g' = g) 1 ?_ ?_
   ·exact ⟨rfl, rfl, by simp -implicitDefEqProofs (disch := (first | omega | fail)) only [go_sem, seval, ↓reduceIte], by simp -implicitDefEqProofs (disch := (first | omega | fail)) only [go_sem, seval, ↓reduceIte, reduceCtorEq], by simp -implicitDefEqProofs (disch := (first | omega | fail)) only [go_sem, seval, ↓reduceIte, reduceCtorEq], by simp -implicitDefEqProofs (disch := (first | omega | fail)) only [go_sem, seval, ↓reduceIte, reduceCtorEq], rfl⟩
   rintro k ⟨⟨n', tr⟩, mks⟩ g' ⟨hmk, hn', t0, t6, t7, t8, rfl⟩
   simp only [Tm.get_mk] at hmk hn' t0 t6 t7 t8
   subst hmk hn'
   simp -implicitDefEqProofs (disch := (first | omega | fail)) only [go_sem, seval, ↓reduceIte, reduceCtorEq, ir44_l0, t0, t6, t7]
   refine GCall.of (rin_ok hr (fun b => .inr (hR b)) (i : Int)) ?_
   rintro r g ⟨rfl, rfl⟩
   rw [decide_eq_false ha]
   simp -implicitDefEqProofs (disch := (first | omega | fail)) only [go_sem, seval, ↓reduceIte, undefV, t8]
   exact ⟨_, rfl, ⟨Nat.le_refl _, fun _ _ _ => rfl, ⟨I, hr, fun _ h => .inl h⟩, OwnS.nil _ _ _ _⟩⟩
end Go.Proofs.Ytmimialblhlklaa
namespace Go.Proofs.Ytmimialblhlklaa
open Go Go.Vm
variable {h : Heap} {R W I : Set'} {rd : Nat} {bl : Nat → Nat} {qs : List Nat} {S : AT}
def tsO (y : Option Pt) : List Te := match y with | some x => x.ts | none => []
def ringO (y : Option Pt) : List (List V) := match y with | some x => x.ring | none => []
def lostO (y : Option Pt) : Int := match y with | some x => x.lost | none => 0
def sameP (x y : Option Pt) : Bool := (x.isSome == y.isSome) && decide (lostO x = lostO y) && decide (tsO x = tsO y) && sameR (ringO x) (ringO y)
theorem PortC.uni {c : Blk} {o : Nat} {y : Option Pt} (hp : PortC h I c o y) : c.get o = .bool y.isSome ∧ TestsV h I (c.get (o + 1)) (tsO y) ∧ RingV h I (c.get (o + 2)) (ringO y) ∧ c.get (o + 3) = .int .i64 (lostO y) := by
 cases y with
 | none =>
  obtain ⟨h1, h2, h3, h4⟩ := hp
  refine ⟨h1, ?_, ?_, h4⟩
  ·rw [h2]; exact ⟨rfl, .inl ⟨rfl, .inl rfl⟩⟩
  ·rw [h3]; exact .inr ⟨[], .inl ⟨rfl, .inl rfl⟩, Nat.le_refl _, rfl, fun i w e => by simp at e⟩
 | some x => exact ⟨hp.1, hp.2.1, hp.2.2.1, hp.2.2.2⟩
def SameA (qs qs' : List Nat) (S S' : AT) : Prop := qs = qs' ∧ ∀ a n, sameP (S a n) (S' a n) = true
structure OkS (S : AT) : Prop where
 r : ∀ a n, (ringO (S a n)).length ≤ 8 ∧ ∀ l ∈ ringO (S a n), Byt l
 t : ∀ a n, (tsO (S a n)).length ≤ 8
theorem RPorts.none (hr : RPorts h I rd bl qs S) {a n : Nat} (hn : ∀ q, qs[a]? = some q → ¬ n < q) : S a n = Option.none := by
 cases e : S a n with
 | none => rfl
 | some x =>
  obtain ⟨q, h1, h2⟩ := hr.dom _ _ _ e
  exact absurd h2 (hn q h1)
end Go.Proofs.Ytmimialblhlklaa
