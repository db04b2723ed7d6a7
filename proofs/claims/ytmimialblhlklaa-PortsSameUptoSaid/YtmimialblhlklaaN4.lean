/- The document's ports: Come. -/
import Derived.Test.YtmimialblhlklaaRC
set_option linter.unusedVariables false
set_option maxRecDepth 100000
namespace Go.Proofs.Ytmimialblhlklaa
open Go Go.Vm
variable {h : Heap} {R W I : Set'} {rd : Nat} {bl : Nat → Nat} {qs : List Nat} {S : AT}
theorem openP_all (hr : RPorts h I rd bl qs S) {i q : Nat} (hq : qs[i]? = some q) : openP S i q = openA S (i : Int) := by
  rw [← hr.upto hq]
  unfold openP
  simp only [lookA_cast]
theorem openA_out (hr : RPorts h I rd bl qs S) {a : Int} (ha : ¬ okA qs a) : openA S a = [] := by
  unfold openA
  rw [List.filter_eq_nil_iff]
  intro n _ h
  rw [hr.oob ha] at h; cases h
set_option maxHeartbeats 4000000 in
theorem rcome_ok {S0 : Set'} {v : V} {l : List V} (hr : RPorts h I rd bl qs S) (h8 : ∀ a n x, S a n = some x → x.ring.length ≤ 8 ∧ okF x.ts) (hv : LR h S0 v l) (hS0 : ∀ k, S0 k → k < h.n ∧ ∀ a, a < qs.length → k ≠ bl a) (hby : Byt l) (hR : ∀ b, R b) (hW : ∀ a, a < qs.length → W (bl a)) : SF Try.prog 44 [.ptr (some (rd, 0)), v] h R W fun r g => ∃ w, r = .tuple [w, .int .i64 (comeE l)] ∧ RC h I rd bl qs (comeA S l) w (comeLA S l) g := by
  have hlen := hv.lenV Try.underlying36
  refine SF.go hm Try.func44 ir44_eq ?_
  by_cases h64 : 64 < (l.length : Int)
  · have h64' : 64 < l.length := by omega
    simp -implicitDefEqProofs (disch := (first | omega | fail)) only [go_sem, seval, ↓reduceIte, reduceCtorEq, ir44, ↓hlen, h64]
    unfold comeE comeA comeLA
    rw [if_pos h64', if_pos h64', if_pos h64']
    exact ⟨_, rfl, ⟨Nat.le_refl _, fun _ _ _ => rfl, ⟨I, hr, fun _ h => .inl h⟩, OwnS.nil _ _ _ _⟩⟩
  have h64' : ¬ 64 < l.length := by omega
  have eE : comeE l = 0 := by unfold comeE; rw [if_neg h64']
  rw [eE]
  simp -implicitDefEqProofs (disch := (first | omega | fail)) only [go_sem, seval, ↓reduceIte, reduceCtorEq, ir44, ↓hlen, h64]
  refine GCall.of (rhome_ok hv hby (fun b => .inr (hR b))) ?_
  rintro r g ⟨rfl, rfl⟩
  unfold homeV
  cases hh : homeP l with
  | none =>
    have e1 : comeA S l = S := by unfold comeA; rw [if_neg h64', hh]
    have e2 : comeLA S l = [] := by unfold comeLA; rw [if_neg h64', hh]
    rw [e1, e2]
    simp -implicitDefEqProofs (disch := (first | omega | fail)) only [go_sem, seval, ↓reduceIte, reduceCtorEq]
    refine GLoop.inv hm (fun k f g' => f.mks = [] ∧ f.tm.n = 105 ∧ f.tm.get 7 = some (.bool false) ∧ f.tm.get 8 = some (.slice none 0 0 true) ∧ g' = g) 1 ?_ ?_
    · exact ⟨rfl, rfl, by simp -implicitDefEqProofs (disch := (first | omega | fail)) only [go_sem, seval, ↓reduceIte, reduceCtorEq], by simp -implicitDefEqProofs (disch := (first | omega | fail)) only [go_sem, seval, ↓reduceIte, reduceCtorEq], rfl⟩
    rintro k ⟨⟨n', tr⟩, mks⟩ g' ⟨hmk, hn', t7, t8, rfl⟩
    simp only [Tm.get_mk] at hmk hn' t7 t8
    subst hmk hn'
    simp -implicitDefEqProofs (disch := (first | omega | fail)) only [go_sem, seval, ↓reduceIte, ir44_l0, undefV, t7, t8]
    exact ⟨_, rfl, ⟨Nat.le_refl _, fun _ _ _ => rfl, ⟨I, hr, fun _ h => .inl h⟩, OwnS.nil _ _ _ _⟩⟩
  | some i =>
    have e1 : comeA S l = comeS S i l (openA S (i : Int)) := by unfold comeA; rw [if_neg h64', hh]
    have e2 : comeLA S l = comeP S i l (openA S (i : Int)) := by unfold comeLA; rw [if_neg h64', hh]
    rw [e1, e2]
    simp -implicitDefEqProofs (disch := (first | omega | fail)) only [go_sem, seval, ↓reduceIte, reduceCtorEq]
    by_cases ha : okA qs (i : Int)
    · have hi : i < qs.length := by have := ha.2; omega
      have hq : qs[i]? = some qs[i] := List.getElem?_eq_getElem hi
      generalize qs[i] = q at hq
      have hl0 : 0 < l.length := by
        cases l with
        | nil => cases hh
        | cons => simp
      refine rcome_loop (q := q) hr h8 hv hS0 hby hl0 (by omega) hR hW hq (by simp -implicitDefEqProofs (disch := (first | omega | fail)) only [go_sem, seval, ↓reduceIte]) (by simp -implicitDefEqProofs (disch := (first | omega | fail)) only [go_sem, seval, ↓reduceIte, reduceCtorEq]) (by simp -implicitDefEqProofs (disch := (first | omega | fail)) only [go_sem, seval, ↓reduceIte, reduceCtorEq]) (by simp -implicitDefEqProofs (disch := (first | omega | fail)) only [go_sem, seval, ↓reduceIte, reduceCtorEq]) (by simp -implicitDefEqProofs (disch := (first | omega | fail)) only [go_sem, seval, ↓reduceIte, reduceCtorEq]) (by simp -implicitDefEqProofs (disch := (first | omega | fail)) only [go_sem, seval, ↓reduceIte, reduceCtorEq]) ?_
      rw [openP_all hr hq]
      intro tr' w' g' t8 hc
      simp -implicitDefEqProofs (disch := (first | omega | fail)) only [go_sem, seval, ↓reduceIte, t8]
      exact ⟨_, rfl, hc⟩
    · rw [openA_out hr ha, comeS_nil]
      refine GLoop.inv hm (fun k f g' => f.mks = [] ∧ f.tm.n = 105 ∧ f.tm.get 0 = some (.ptr (some (rd, 0))) ∧ f.tm.get 6 = some (.int .i64 (i : Int)) ∧ f.tm.get 7 = some (.bool true) ∧ f.tm.get 8 = some (.slice none 0 0 true) ∧ g' = g) 1 ?_ ?_
      · exact ⟨rfl, rfl, by simp -implicitDefEqProofs (disch := (first | omega | fail)) only [go_sem, seval, ↓reduceIte], by simp -implicitDefEqProofs (disch := (first | omega | fail)) only [go_sem, seval, ↓reduceIte, reduceCtorEq], by simp -implicitDefEqProofs (disch := (first | omega | fail)) only [go_sem, seval, ↓reduceIte, reduceCtorEq], by simp -implicitDefEqProofs (disch := (first | omega | fail)) only [go_sem, seval, ↓reduceIte, reduceCtorEq], rfl⟩
      rintro k ⟨⟨n', tr⟩, mks⟩ g' ⟨hmk, hn', t0, t6, t7, t8, rfl⟩
      simp only [Tm.get_mk] at hmk hn' t0 t6 t7 t8
      subst hmk hn'
      simp -implicitDefEqProofs (disch := (first | omega | fail)) only [go_sem, seval, ↓reduceIte, reduceCtorEq, ir44_l0, t0, t6, t7]
      refine GCall.of (rin_ok hr (fun b => .inr (hR b)) (i : Int)) ?_
      rintro r g ⟨rfl, rfl⟩
      rw [decide_eq_false ha]
      simp -implicitDefEqProofs (disch := (first | omega | fail)) only [go_sem, seval, ↓reduceIte, undefV, t8]
      exact ⟨_, rfl, ⟨Nat.le_refl _, fun _ _ _ => rfl, ⟨I, hr, fun _ h => .inl h⟩, OwnS.nil _ _ _ _⟩⟩
end Go.Proofs.Ytmimialblhlklaa
namespace Go.Proofs.Ytmimialblhlklaa
open Go Go.Vm
variable {h : Heap} {R W I : Set'} {rd : Nat} {bl : Nat → Nat} {qs : List Nat} {S : AT}
def tsO (y : Option Pt) : List Te := match y with | some x => x.ts | none => []
def ringO (y : Option Pt) : List (List V) := match y with | some x => x.ring | none => []
def lostO (y : Option Pt) : Int := match y with | some x => x.lost | none => 0
def sameP (x y : Option Pt) : Bool := (x.isSome == y.isSome) && decide (lostO x = lostO y) && decide (tsO x = tsO y) && sameR (ringO x) (ringO y)
theorem PortC.uni {c : Blk} {o : Nat} {y : Option Pt} (hp : PortC h I c o y) : c.get o = .bool y.isSome ∧ TestsV h I (c.get (o + 1)) (tsO y) ∧ RingV h I (c.get (o + 2)) (ringO y) ∧ c.get (o + 3) = .int .i64 (lostO y) := by
  cases y with
  | none =>
    obtain ⟨h1, h2, h3, h4⟩ := hp
    refine ⟨h1, ?_, ?_, h4⟩
    · rw [h2]; exact ⟨rfl, .inl ⟨rfl, .inl rfl⟩⟩
    · rw [h3]; exact .inr ⟨[], .inl ⟨rfl, .inl rfl⟩, Nat.le_refl _, rfl, fun i w e => by simp at e⟩
  | some x => exact ⟨hp.1, hp.2.1, hp.2.2.1, hp.2.2.2⟩
def SameA (qs qs' : List Nat) (S S' : AT) : Prop := qs = qs' ∧ ∀ a n, sameP (S a n) (S' a n) = true
structure OkS (S : AT) : Prop where
  r : ∀ a n, (ringO (S a n)).length ≤ 8 ∧ ∀ l ∈ ringO (S a n), Byt l
  t : ∀ a n, (tsO (S a n)).length ≤ 8
theorem RPorts.none (hr : RPorts h I rd bl qs S) {a n : Nat} (hn : ∀ q, qs[a]? = some q → ¬ n < q) : S a n = Option.none := by
  cases e : S a n with
  | none => rfl
  | some x =>
    obtain ⟨q, h1, h2⟩ := hr.dom _ _ _ e
    exact absurd h2 (hn q h1)
def ir22_x : LC := (.seq (.ops [⟨some 90, Op.fieldAddr 109 (Operand.tmp 7) 0, none⟩,
    ⟨some 91, Op.load 4 (Operand.tmp 90), none⟩,
    ⟨some 92, Op.fieldAddr 109 (Operand.tmp 8) 0, none⟩,
    ⟨some 93, Op.load 4 (Operand.tmp 92), none⟩,
    ⟨some 94, Op.binOp BinOp.neq 4 (Operand.tmp 91) (Operand.tmp 93) 4, none⟩,
    ⟨some 95, Op.move (Operand.tmp 94), none⟩,
    ⟨some 96, Op.fieldAddr 109 (Operand.tmp 7) 3, some (95, false)⟩,
    ⟨some 97, Op.load 2 (Operand.tmp 96), some (95, false)⟩,
    ⟨some 98, Op.fieldAddr 109 (Operand.tmp 8) 3, some (95, false)⟩,
    ⟨some 99, Op.load 2 (Operand.tmp 98), some (95, false)⟩,
    ⟨some 100, Op.binOp BinOp.neq 2 (Operand.tmp 97) (Operand.tmp 99) 2, some (95, false)⟩,
    ⟨some 101, Op.pick (Operand.tmp 95) (Operand.const (Value.bool true)) (Operand.tmp 100), none⟩,
    ⟨some 102, Op.move (Operand.tmp 101), none⟩,
    ⟨some 103, Op.fieldAddr 109 (Operand.tmp 7) 1, some (102, false)⟩,
    ⟨some 104, Op.load 22 (Operand.tmp 103), some (102, false)⟩,
    ⟨some 105, Op.fieldAddr 109 (Operand.tmp 8) 1, some (102, false)⟩,
    ⟨some 106, Op.load 22 (Operand.tmp 105), some (102, false)⟩,
    ⟨some 107, Op.call { callee := Callee.value (Operand.func 42), args := #[Operand.tmp 104, Operand.tmp 106], argTypes := #[22, 22] }, some (102, false)⟩,
    ⟨some 108, Op.unOp UnOp.not 4 (Operand.tmp 107), some (102, false)⟩,
    ⟨some 109, Op.pick (Operand.tmp 102) (Operand.const (Value.bool true)) (Operand.tmp 108), none⟩,
    ⟨some 110, Op.move (Operand.tmp 109), none⟩,
    ⟨some 111, Op.fieldAddr 109 (Operand.tmp 7) 2, some (110, false)⟩,
    ⟨some 112, Op.load 23 (Operand.tmp 111), some (110, false)⟩,
    ⟨some 113, Op.fieldAddr 109 (Operand.tmp 8) 2, some (110, false)⟩,
    ⟨some 114, Op.load 23 (Operand.tmp 113), some (110, false)⟩,
    ⟨some 115, Op.call { callee := Callee.value (Operand.func 53), args := #[Operand.tmp 112, Operand.tmp 114], argTypes := #[23, 23] }, some (110, false)⟩,
    ⟨some 116, Op.unOp UnOp.not 4 (Operand.tmp 115), some (110, false)⟩,
    ⟨some 117, Op.pick (Operand.tmp 110) (Operand.const (Value.bool true)) (Operand.tmp 116), none⟩])
  (.cond (Operand.tmp 117)
  (.seq (.ops [⟨some 4, Op.assign (Operand.const (Value.bool false)), none⟩])
  .ret)
  .skip))
def ir22_c0 : LC := (.seq (.seq (.ops [⟨some 58, Op.move (Operand.tmp 6), none⟩,
    ⟨some 59, Op.move (Operand.tmp 0), none⟩,
    ⟨some 60, Op.nilCheck (Operand.tmp 59), none⟩,
    ⟨some 61, Op.fieldAddr 106 (Operand.tmp 60) 0, none⟩,
    ⟨some 62, Op.load 104 (Operand.tmp 61), none⟩,
    ⟨some 63, Op.move (Operand.tmp 5), none⟩,
    ⟨some 64, Op.indexAddr 104 (Operand.tmp 62) (Operand.tmp 63), none⟩,
    ⟨some 65, Op.load 107 (Operand.tmp 64), none⟩,
    ⟨some 66, Op.call { callee := Callee.builtin Builtin.len, args := #[Operand.tmp 65], argTypes := #[107] }, none⟩,
    ⟨some 67, Op.binOp BinOp.lss 3 (Operand.tmp 58) (Operand.tmp 66) 3, none⟩])
  (.cond (Operand.tmp 67)
  .skip
  (.exit 2)))
  (.seq (.block 3 (.seq (.draw [⟨some 70, Op.move (Operand.tmp 0), none⟩,
    ⟨some 71, Op.nilCheck (Operand.tmp 70), none⟩,
    ⟨some 72, Op.fieldAddr 106 (Operand.tmp 71) 0, none⟩,
    ⟨some 73, Op.load 104 (Operand.tmp 72), none⟩,
    ⟨some 74, Op.move (Operand.tmp 5), none⟩,
    ⟨some 75, Op.indexAddr 104 (Operand.tmp 73) (Operand.tmp 74), none⟩,
    ⟨some 76, Op.load 107 (Operand.tmp 75), none⟩,
    ⟨some 77, Op.move (Operand.tmp 6), none⟩,
    ⟨some 78, Op.indexAddr 107 (Operand.tmp 76) (Operand.tmp 77), none⟩,
    ⟨some 79, Op.load 109 (Operand.tmp 78), none⟩,
    ⟨some 80, Op.move (Operand.tmp 1), none⟩,
    ⟨some 81, Op.nilCheck (Operand.tmp 80), none⟩,
    ⟨some 82, Op.fieldAddr 106 (Operand.tmp 81) 0, none⟩,
    ⟨some 83, Op.load 104 (Operand.tmp 82), none⟩,
    ⟨some 84, Op.move (Operand.tmp 5), none⟩,
    ⟨some 85, Op.indexAddr 104 (Operand.tmp 83) (Operand.tmp 84), none⟩,
    ⟨some 86, Op.load 107 (Operand.tmp 85), none⟩,
    ⟨some 87, Op.move (Operand.tmp 6), none⟩,
    ⟨some 88, Op.indexAddr 107 (Operand.tmp 86) (Operand.tmp 87), none⟩,
    ⟨some 89, Op.load 109 (Operand.tmp 88), none⟩,
    ⟨some 7, Op.alloc 109, none⟩,
    ⟨some 8, Op.alloc 109, none⟩,
    ⟨none, Op.store 109 (Operand.tmp 7) (Operand.tmp 79), none⟩,
    ⟨none, Op.store 109 (Operand.tmp 8) (Operand.tmp 89), none⟩] [(0, 20), (1, 20), (2, 20), (3, 20), (4, 20), (5, 20), (6, 20), (7, 20), (8, 20), (9, 20), (10, 20), (11, 20), (12, 20), (13, 20), (14, 20), (15, 20), (16, 20), (17, 20), (18, 20), (19, 20), (0, 21), (1, 21), (2, 21), (3, 21), (4, 21), (5, 21), (6, 21), (7, 21), (8, 21), (9, 21), (10, 21), (11, 21), (12, 21), (13, 21), (14, 21), (15, 21), (16, 21), (17, 21), (18, 21), (19, 21), (20, 21), (10, 22), (11, 22), (12, 22), (13, 22), (14, 22), (15, 22), (16, 22), (17, 22), (18, 22), (19, 22)])
  ir22_x))
  (.ops [⟨some 68, Op.move (Operand.tmp 6), none⟩,
    ⟨some 69, Op.binOp BinOp.add 3 (Operand.tmp 68) (Operand.const (Value.int IntKind.i64 1)) 3, none⟩,
    ⟨some 6, Op.assign (Operand.tmp 69), none⟩])))
theorem ir22_c0_eq : ir22_l0 = ir22_c0 := rfl
set_option maxHeartbeats 4000000 in
theorem rsame_inner {I' : Set'} {rd' : Nat} {bl' : Nat → Nat} {qs' : List Nat} {S' : AT} {i q : Nat} {tr : Tr V} {Q : Ex → Fr → Heap → Prop} {t : List It} {h0 : Heap}
    (hr : RPorts h0 I rd bl qs S) (hr' : RPorts h0 I' rd' bl' qs' S') (hS : OkS S) (hS' : OkS S') (hR : ∀ b, R b) (hn0 : h0.n ≤ h.n) (hk0 : ∀ k, k < h0.n → h.get k = h0.get k) (hq : qs[i]? = some q) (hq' : qs'[i]? = some q)
    (t0 : tr.get 0 = some (.ptr (some (rd, 0)))) (t1 : tr.get 1 = some (.ptr (some (rd', 0)))) (t5 : tr.get 5 = some (.int .i64 (i : Int))) (t6 : tr.get 6 = some (.int .i64 0))
    (hk : ∀ tr' g, (∀ n, n < q → sameP (S i n) (S' i n) = true) → tr'.get 0 = some (.ptr (some (rd, 0))) → tr'.get 1 = some (.ptr (some (rd', 0))) → tr'.get 5 = some (.int .i64 (i : Int)) → h0.n ≤ g.n → (∀ k, k < h0.n → g.get k = h0.get k) → resume ⟨Try.prog, false⟩ (fun b => h0.n ≤ b ∨ R b) (fun b => h0.n ≤ b ∨ W b) none Q t (.exit 2) ⟨⟨118, tr'⟩, []⟩ g)
    (hb : ∀ tr' g n, n < q → sameP (S i n) (S' i n) = false → tr'.get 4 = some (.bool false) → h0.n ≤ g.n → (∀ k, k < h0.n → g.get k = h0.get k) → Q .ret ⟨⟨118, tr'⟩, []⟩ g) :
    GLoop ⟨Try.prog, false⟩ (fun b => h0.n ≤ b ∨ R b) (fun b => h0.n ≤ b ∨ W b) none Q ir22_l0 t ⟨⟨118, tr⟩, []⟩ h := by
  rw [ir22_c0_eq]
  refine GLoop.inv hm (fun k f g => f.mks = [] ∧ f.tm.n = 118 ∧ f.tm.get 0 = some (.ptr (some (rd, 0))) ∧ f.tm.get 1 = some (.ptr (some (rd', 0))) ∧ f.tm.get 5 = some (.int .i64 (i : Int)) ∧ h0.n ≤ g.n ∧ (∀ k, k < h0.n → g.get k = h0.get k) ∧ ∃ (p : Nat), p + k = q ∧ f.tm.get 6 = some (.int .i64 (p : Int)) ∧ ∀ n, n < p → sameP (S i n) (S' i n) = true) q ?_ ?_
  · exact ⟨rfl, rfl, t0, t1, t5, hn0, hk0, 0, by omega, t6, fun n hn => by omega⟩
  clear t0 t1 t5 t6
  rintro k ⟨⟨n', tr⟩, mks⟩ g ⟨hmk, hn', t0, t1, t5, hgn, hgo, p, hpk, t6, hall⟩
  simp only [Tm.get_mk] at hmk hn' t0 t1 t5 t6
  subst hmk hn'
  have hrg := hr.old hgo
  have hq16 := hrg.qs.2.2 q (List.mem_of_getElem? hq)
  have hrg' := hr'.old hgo
  have hi : i < qs.length := (List.getElem?_eq_some_iff.1 hq).1
  have hi' : i < qs'.length := (List.getElem?_eq_some_iff.1 hq').1
  have hRd := hR rd; have hRl := hR (bl i); have hRd' := hR rd'; have hRl' := hR (bl' i)
  have hz1 : (i : Int) < (qs.length : Int) := by omega
  have hz1' : (i : Int) < (qs'.length : Int) := by omega
  have hi0 : (0 : Int) ≤ (i : Int) := by omega
  have hm0 : (0 : Int) ≤ (p : Int) := by omega
  by_cases hpq : p < q
  rotate_left
  · have hz2 : ¬ (p : Int) < (q : Int) := by omega
    obtain rfl : p = q := by omega
    obtain ⟨c, b, o, cap, ex, cc, ce, c1, c2, c3, c4, c5, c6, _⟩ := hrg.acc hi
    rw [show qs[i] = p by rw [List.getElem?_eq_getElem hi] at hq; exact Option.some.inj hq] at c6
    have hRb := hR b
    simp -implicitDefEqProofs (disch := (first | omega | (simp -implicitDefEqProofs only [szs, ne_eq] <;> omega) | fail)) only [go_sem, seval, ↓reduceIte, reduceCtorEq, ir22_c0, t0, t5, t6, c1, c2, c3, c4, c6, hRd, hRb, hz1, hi0, hz2]
    exact hk _ _ hall (by simp -implicitDefEqProofs (disch := (first | omega | (simp -implicitDefEqProofs only [szs, ne_eq] <;> omega) | fail)) only [go_sem, seval, ↓reduceIte, reduceCtorEq, t0]) (by simp -implicitDefEqProofs (disch := (first | omega | (simp -implicitDefEqProofs only [szs, ne_eq] <;> omega) | fail)) only [go_sem, seval, ↓reduceIte, t1]) (by simp -implicitDefEqProofs (disch := (first | omega | (simp -implicitDefEqProofs only [szs, ne_eq] <;> omega) | fail)) only [go_sem, seval, ↓reduceIte, t5]) hgn hgo
  obtain ⟨c, b, o, cap, ex, cc, ce, cb, c1, c2, c3, c4, c5, c6, b1, b2, b3, b4, hsz⟩ := hrg.at' hq hpq
  obtain ⟨c', b', o', cap', ex', cc', ce', cb', c1', c2', c3', c4', c5', c6', b1', b2', b3', b4', hsz'⟩ := hrg'.at' hq' hpq
  have hRb := hR b; have hRb' := hR b'
  have hz2 : (p : Int) < (q : Int) := by omega
  obtain ⟨p0, p1, p2, p3⟩ := (b4 p hpq).uni
  obtain ⟨p0', p1', p2', p3'⟩ := (b4' p hpq).uni
  have q1 := LRs.one p1; have q2 := p2.one
  have q1' := LRs.one p1'; have q2' := p2'.one
  have hRn := hR g.n; have hRn' := hR (g.n + 1)
  have hWn : h0.n ≤ g.n ∨ W g.n := .inl hgn
  have hWn' : h0.n ≤ g.n + 1 ∨ W (g.n + 1) := .inl (by omega)
  simp -implicitDefEqProofs (disch := (first | omega | (simp -implicitDefEqProofs only [szs, ne_eq] <;> omega) | fail)) only [go_sem, seval, ↓reduceIte, reduceCtorEq, ir22_c0, undefV, t0, t1, t5, t6, c1, c2, c3, c4, c6, c1', c2', c3', c4', c6', hRd, hRb, hRl, hRd', hRb', hRl', hz1, hz1', hi0, hz2, hm0, b1, b1', p0, p0', p3, p3', ↓q1, ↓q1', ↓q2, ↓q2', hWn, hWn']
  refine ⟨?_, ?_⟩
  · simp only [List.not_mem_nil, or_false, false_or, and_false, false_implies, implies_true, not_false_eq_true, List.mem_cons, and_true, true_and]
    and_intros
    all_goals try (intros; omega)
  obtain ⟨gx, eX⟩ : ∃ gx, gx = (((g.push (O.cells (Blk.of [V.bool false, V.slice none 0 0 true, V.slice none 0 0 true, V.int IntKind.i64 0]) 109)).push (O.cells (Blk.of [V.bool false, V.slice none 0 0 true, V.slice none 0 0 true, V.int IntKind.i64 0]) 109)).set g.n (O.cells (((((Blk.of [V.bool false, V.slice none 0 0 true, V.slice none 0 0 true, V.int IntKind.i64 0]).set 0 (V.bool (S i p).isSome)).set 1 (cb.get (p * 4 + 1))).set 2 (cb.get (p * 4 + 1 + 1))).set 3 (V.int IntKind.i64 (lostO (S i p)))) 109)).set (g.n + 1) (O.cells (((((Blk.of [V.bool false, V.slice none 0 0 true, V.slice none 0 0 true, V.int IntKind.i64 0]).set 0 (V.bool (S' i p).isSome)).set 1 (cb'.get (p * 4 + 1))).set 2 (cb'.get (p * 4 + 1 + 1))).set 3 (V.int IntKind.i64 (lostO (S' i p)))) 109) := ⟨_, rfl⟩
  rw [← eX]
  have nX : gx.n = g.n + 2 := by rw [eX]; simp
  have kX : ∀ k, k < g.n → gx.get k = g.get k := fun k hk => by rw [eX, w_set_ne (by simp) (by omega), w_set_ne (by simp; omega) (by omega), w_push_ne (by simp; omega), w_push_ne (by omega)]
  have bX : gx.get g.n = some (O.cells (((((Blk.of [V.bool false, V.slice none 0 0 true, V.slice none 0 0 true, V.int IntKind.i64 0]).set 0 (V.bool (S i p).isSome)).set 1 (cb.get (p * 4 + 1))).set 2 (cb.get (p * 4 + 1 + 1))).set 3 (V.int IntKind.i64 (lostO (S i p)))) 109) := by rw [eX, w_set_ne (by simp) (by omega)]; exact w_set_eq (by simp; omega) rfl _
  have bY : gx.get (g.n + 1) = some (O.cells (((((Blk.of [V.bool false, V.slice none 0 0 true, V.slice none 0 0 true, V.int IntKind.i64 0]).set 0 (V.bool (S' i p).isSome)).set 1 (cb'.get (p * 4 + 1))).set 2 (cb'.get (p * 4 + 1 + 1))).set 3 (V.int IntKind.i64 (lostO (S' i p)))) 109) := by rw [eX]; exact w_set_eq (by simp) rfl _
  clear eX
  have hIl : ∀ k, I k → k < g.n := fun k hk => by obtain ⟨c, e, h1, _⟩ := hrg.imm k hk; exact Heap.lt_of_get h1
  have hIl' : ∀ k, I' k → k < g.n := fun k hk => by obtain ⟨c, e, h1, _⟩ := hrg'.imm k hk; exact Heap.lt_of_get h1
  have p1x := LRs.same p1 fun k h1 h2 => kX k (hIl k h1)
  have p1y := LRs.same p1' fun k h1 h2 => kX k (hIl' k h1)
  have p2x := p2.same fun k h1 => kX k (hIl k h1)
  have p2y := p2'.same fun k h1 => kX k (hIl' k h1)
  have hgx : h0.n ≤ gx.n := by omega
  have hox : ∀ k, k < h0.n → gx.get k = h0.get k := fun k hk => by rw [kX k (by omega)]; exact hgo k hk
  have bad : sameP (S i p) (S' i p) = false → ∀ tr', tr'.get 4 = some (.bool false) → Q .ret ⟨⟨118, tr'⟩, []⟩ gx := fun h1 tr' h2 => hb tr' gx p hpq h1 h2 hgx hox
  by_cases e1 : (S i p).isSome = (S' i p).isSome
  rotate_left
  · have e1' : ((S i p).isSome == (S' i p).isSome) = false := by simpa using e1
    simp -implicitDefEqProofs (disch := (first | omega | (simp -implicitDefEqProofs only [szs, ne_eq] <;> omega) | fail)) only [go_sem, seval, ↓reduceIte, ir22_x, undefV, hRn, hRn', bX, bY, e1']
    exact bad (by unfold sameP; rw [show ((S i p).isSome == (S' i p).isSome) = false by simpa using e1]; rfl) _ (by simp -implicitDefEqProofs (disch := (first | omega | (simp -implicitDefEqProofs only [szs, ne_eq] <;> omega) | fail)) only [go_sem, seval, ↓reduceIte])
  have e1'' : ((S i p).isSome == (S' i p).isSome) = true := by simpa using e1
  by_cases e2 : lostO (S i p) = lostO (S' i p)
  rotate_left
  · have e2' : (lostO (S i p) != lostO (S' i p)) = true := by simpa using e2
    simp -implicitDefEqProofs (disch := (first | omega | (simp -implicitDefEqProofs only [szs, ne_eq] <;> omega) | fail)) only [go_sem, seval, ↓reduceIte, ir22_x, undefV, hRn, hRn', bX, bY, e1'', e2']
    exact bad (by unfold sameP; rw [decide_eq_false e2]; simp) _ (by simp -implicitDefEqProofs (disch := (first | omega | (simp -implicitDefEqProofs only [szs, ne_eq] <;> omega) | fail)) only [go_sem, seval, ↓reduceIte])
  have e2' : (lostO (S i p) != lostO (S' i p)) = false := by simpa using e2
  simp -implicitDefEqProofs (disch := (first | omega | (simp -implicitDefEqProofs only [szs, ne_eq] <;> omega) | fail)) only [go_sem, seval, ↓reduceIte, ir22_x, hRn, hRn', bX, bY, e1'', e2']
  refine GCall.of (sametests_ok p1x p1y (fun b => .inr (hR b)) (by have := hS.t i p; omega)) ?_
  rintro r gy ⟨rfl, rfl⟩
  by_cases e3 : tsO (S i p) = tsO (S' i p)
  rotate_left
  · rw [decide_eq_false e3]
    simp -implicitDefEqProofs (disch := (first | omega | (simp -implicitDefEqProofs only [szs, ne_eq] <;> omega) | fail)) only [go_sem, seval, ↓reduceIte, undefV]
    exact bad (by unfold sameP; rw [decide_eq_false e3]; simp) _ (by simp -implicitDefEqProofs (disch := (first | omega | (simp -implicitDefEqProofs only [szs, ne_eq] <;> omega) | fail)) only [go_sem, seval, ↓reduceIte])
  rw [decide_eq_true e3]
  simp -implicitDefEqProofs (disch := (first | omega | (simp -implicitDefEqProofs only [szs, ne_eq] <;> omega) | fail)) only [go_sem, seval, ↓reduceIte, hRn, hRn', bX, bY]
  refine GCall.of (samering_ok p2x p2y (hS.r i p).2 (hS'.r i p).2 (fun b => .inr (hR b)) (by have := (hS.r i p).1; omega)) ?_
  rintro r gz ⟨rfl, rfl⟩
  have hsp : sameP (S i p) (S' i p) = sameR (ringO (S i p)) (ringO (S' i p)) := by unfold sameP; rw [e1'', decide_eq_true e2, decide_eq_true e3]; rfl
  cases e4 : sameR (ringO (S i p)) (ringO (S' i p)) with
  | false =>
    simp -implicitDefEqProofs (disch := (first | omega | (simp -implicitDefEqProofs only [szs, ne_eq] <;> omega) | fail)) only [go_sem, seval, ↓reduceIte]
    exact bad (by rw [hsp, e4]) _ (by simp -implicitDefEqProofs (disch := (first | omega | (simp -implicitDefEqProofs only [szs, ne_eq] <;> omega) | fail)) only [go_sem, seval, ↓reduceIte])
  | true =>
    simp -implicitDefEqProofs (disch := (first | omega | (simp -implicitDefEqProofs only [szs, ne_eq] <;> omega) | fail)) only [go_sem, seval, ↓reduceIte, reduceCtorEq, t0, t1, t5, t6]
    refine ⟨k - 1, by omega, hgx, hox, p + 1, by omega, by simp, fun n hn => ?_⟩
    by_cases hnp : n = p
    · rw [hnp, hsp, e4]
    · exact hall n (by omega)
set_option maxHeartbeats 4000000 in
theorem rsame_ok {I' : Set'} {rd' : Nat} {bl' : Nat → Nat} {qs' : List Nat} {S' : AT} (hr : RPorts h I rd bl qs S) (hr' : RPorts h I' rd' bl' qs' S') (hS : OkS S) (hS' : OkS S') (hR : ∀ b, R b) : SF Try.prog 22 [.ptr (some (rd, 0)), .ptr (some (rd', 0))] h R W fun r g => (∃ b, r = .bool b ∧ (b = true ↔ SameA qs qs' S S')) ∧ h.n ≤ g.n ∧ ∀ k, k < h.n → g.get k = h.get k := by
  obtain ⟨c, c1, c2, hl, ho, c3⟩ := hr.lenV
  obtain ⟨c', c1', c2', hl', ho', c3'⟩ := hr'.lenV
  have hq8 := hr.qs.2.1
  have hRd := hR rd; have hRd' := hR rd'
  refine SF.go hm Try.func22 ir22_eq ?_
  by_cases hlen : qs.length = qs'.length
  rotate_left
  · have hz : ((qs.length : Int) != (qs'.length : Int)) = true := by simp; omega
    simp -implicitDefEqProofs (disch := (first | omega | fail)) only [go_sem, seval, ↓reduceIte, reduceCtorEq, ir22, c1, c2, c1', c2', hRd, hRd', ↓hl, ↓hl', hz]
    exact ⟨false, rfl, ⟨fun h => (by cases h), fun h => absurd (congrArg List.length h.1) hlen⟩⟩
  have hz : ((qs.length : Int) != (qs'.length : Int)) = false := by simp [hlen]
  simp -implicitDefEqProofs (disch := (first | omega | fail)) only [go_sem, seval, ↓reduceIte, reduceCtorEq, ir22, c1, c2, c1', c2', hRd, hRd', ↓hl, ↓hl', hz]
  refine GLoop.inv hm (fun k f g => f.mks = [] ∧ f.tm.n = 118 ∧ f.tm.get 0 = some (.ptr (some (rd, 0))) ∧ f.tm.get 1 = some (.ptr (some (rd', 0))) ∧ h.n ≤ g.n ∧ (∀ k, k < h.n → g.get k = h.get k) ∧ ∃ (i : Nat), i + k = qs.length ∧ f.tm.get 5 = some (.int .i64 (i : Int)) ∧ ∀ a, a < i → qs[a]? = qs'[a]? ∧ ∀ n, sameP (S a n) (S' a n) = true) qs.length ?_ ?_
  · exact ⟨rfl, rfl, by simp -implicitDefEqProofs (disch := (first | omega | fail)) only [go_sem, seval, ↓reduceIte], by simp -implicitDefEqProofs (disch := (first | omega | fail)) only [go_sem, seval, ↓reduceIte, reduceCtorEq], Nat.le_refl _, fun _ _ => rfl, 0, by omega, by simp -implicitDefEqProofs (disch := (first | omega | fail)) only [go_sem, Nat.reduceSub, Nat.reduceMod, Nat.reduceDiv, ↓reduceIte, reduceCtorEq]; rfl, fun n hn => by omega⟩
  rintro k ⟨⟨n', tr⟩, mks⟩ g ⟨hmk, hn', t0, t1, hgn, hgo, i, hik, t5, hall⟩
  simp only [Tm.get_mk] at hmk hn' t0 t1 t5
  subst hmk hn'
  have hrg := hr.old hgo
  have hrg' := hr'.old hgo
  have hi0 : (0 : Int) ≤ (i : Int) := by omega
  by_cases hi : i < qs.length
  rotate_left
  · obtain ⟨c, c1, c2, hl, ho, c3⟩ := hrg.lenV
    have hz1 : ¬ (i : Int) < (qs.length : Int) := by omega
    simp -implicitDefEqProofs (disch := (first | omega | fail)) only [go_sem, seval, ↓reduceIte, reduceCtorEq, ir22_l1, t0, t5, c1, c2, hRd, ↓hl, hz1]
    refine ⟨⟨true, rfl, ⟨fun _ => ⟨?_, fun a n => ?_⟩, fun _ => rfl⟩⟩, hgn, hgo⟩
    · refine List.ext_getElem? fun a => ?_
      by_cases ha : a < i
      · exact (hall a ha).1
      · rw [List.getElem?_eq_none (by omega), List.getElem?_eq_none (by omega)]
    · by_cases ha : a < i
      · exact (hall a ha).2 n
      · rw [hr.none fun q e => by have := (List.getElem?_eq_some_iff.1 e).1; omega, hr'.none fun q e => by have := (List.getElem?_eq_some_iff.1 e).1; omega]
        rfl
  have hi' : i < qs'.length := by omega
  obtain ⟨c, b, o, cap, ex, cc, ce, c1, c2, c3, c4, c5, c6, _⟩ := hrg.acc hi
  obtain ⟨c', b', o', cap', ex', cc', ce', c1', c2', c3', c4', c5', c6', _⟩ := hrg'.acc hi'
  have hRb := hR b; have hRb' := hR b'
  have hz1 : (i : Int) < (qs.length : Int) := by omega
  have hz1' : (i : Int) < (qs'.length : Int) := by omega
  have hq : qs[i]? = some qs[i] := List.getElem?_eq_getElem hi
  have hq' : qs'[i]? = some qs'[i] := List.getElem?_eq_getElem hi'
  generalize qs[i] = q at *
  generalize qs'[i] = q' at *
  by_cases hqq : q = q'
  rotate_left
  · have hne : ((q : Int) != (q' : Int)) = true := by simp; omega
    simp -implicitDefEqProofs (disch := (first | omega | fail)) only [go_sem, seval, ↓reduceIte, reduceCtorEq, ir22_l1, t0, t1, t5, c1, c2, c3, c4, c6, c1', c2', c3', c4', c6', hRd, hRd', hRb, hRb', hi0, hz1, hz1', hne]
    exact ⟨⟨false, rfl, ⟨fun h => (by cases h), fun h => absurd h.1 fun e => hqq (by rw [e, hq'] at hq; exact (Option.some.inj hq).symm)⟩⟩, hgn, hgo⟩
  subst hqq
  have hne : ((q : Int) != (q : Int)) = false := by simp
  simp -implicitDefEqProofs (disch := (first | omega | fail)) only [go_sem, seval, ↓reduceIte, reduceCtorEq, ir22_l1, t0, t1, t5, c1, c2, c3, c4, c6, c1', c2', c3', c4', c6', hRd, hRd', hRb, hRb', hi0, hz1, hz1', hne]
  refine rsame_inner hr hr' hS hS' hR hgn hgo hq hq' (by simp -implicitDefEqProofs (disch := (first | omega | fail)) only [go_sem, seval, ↓reduceIte, reduceCtorEq, t0]) (by simp -implicitDefEqProofs (disch := (first | omega | fail)) only [go_sem, seval, ↓reduceIte, t1]) (by simp -implicitDefEqProofs (disch := (first | omega | fail)) only [go_sem, seval, ↓reduceIte, t5]) (by simp -implicitDefEqProofs (disch := (first | omega | fail)) only [go_sem, seval, ↓reduceIte]) ?_ ?_
  · intro tr' g2 hs t0 t1 t5 hgn2 hgo2
    simp -implicitDefEqProofs (disch := (first | omega | fail)) only [go_sem, seval, ↓reduceIte, reduceCtorEq, t0, t1, t5]
    refine ⟨k - 1, by omega, hgn2, hgo2, i + 1, by omega, by simp, fun a ha => ?_⟩
    by_cases hai : a = i
    · subst hai
      refine ⟨hq.trans hq'.symm, fun n => ?_⟩
      by_cases hn : n < q
      · exact hs n hn
      · rw [hr.none fun q1 e => by rw [hq] at e; cases e; exact hn, hr'.none fun q1 e => by rw [hq'] at e; cases e; exact hn]
        rfl
    · exact hall a (by omega)
  · intro tr' g2 n hn hs t4 hgn2 hgo2
    simp -implicitDefEqProofs (disch := (first | omega | fail)) only [go_sem, seval, t4]
    exact ⟨⟨false, rfl, ⟨fun h => (by cases h), fun h => by rw [h.2 i n] at hs; cases hs⟩⟩, hgn2, hgo2⟩
end Go.Proofs.Ytmimialblhlklaa
