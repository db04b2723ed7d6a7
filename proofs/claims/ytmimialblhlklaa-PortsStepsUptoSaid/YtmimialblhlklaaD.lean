/- Ports: Filter, Look, Take, Close, put. -/
import Derived.Test.YtmimialblhlklaaC
set_option linter.unusedVariables false
set_option maxRecDepth 100000
namespace Go.Proofs.Ytmimialblhlklaa
open Go Go.Vm
variable {h : Heap} {R W I : Set'} {pp mp : Nat} {qs : List Nat} {T : PT}
def Fit (T : PT) : Prop := ∀ a n b x, T a n = some (b, x) → okF x.ts ∧ ∀ l ∈ x.ring, Byt l ∧ l.length ≤ 64
theorem filter_ok (hp : PortsAt h I pp mp qs T) (hF : Fit T) (hR : ∀ b, R b) (a n : Int) : SF Try.prog 58 [.ptr (some (pp, 0)), .int .i64 a, .int .i64 n] h R W fun v h' => (∀ b, b < h.n → h'.get b = h.get b) ∧ h.n ≤ h'.n ∧ ((lookT T a n = none ∧ v = .tuple [.slice none 0 0 true, .bool false]) ∨ ∃ b x s, lookT T a n = some (b, x) ∧ v = .tuple [s, .bool true] ∧ OwnS 3 h.n h' s x.ts.length (flatT x.ts) 79) := by
 refine SF.go hm Try.func58 ir58_eq ?_
 simp -implicitDefEqProofs (disch := (first | omega | fail)) only [go_sem, seval, ↓reduceIte, reduceCtorEq, ir58]
 refine GCall.of (get_ok hp (.inr (hR _)) (.inr (hR _)) a n) ?_
 rintro v h1 ⟨rfl, rfl⟩
 rcases getV_cases hp a n with ⟨b, x, hl, he, hg⟩ | ⟨hl, he, hg⟩
 ·rw [hg, hl]
  have hT := (lookT_some hl).2.2
  obtain ⟨c, f, c1, c2, c3, c4, c5, c6, c7, c8, _⟩ := (hp.pt _ _ _ _ hT).c
  have hRb := hR b
  have h8 := (hF _ _ _ _ hT).1.1
  simp -implicitDefEqProofs (disch := (first | omega | fail)) only [go_sem, seval, ↓reduceIte, reduceCtorEq, c1, c2, hRb]
  refine GCall.of (((clone32 (R := fun _ => True) (W := fun _ => False) c4 (fun _ _ => trivial) (by omega)).kept).foot (fun b _ => .inr (hR b)) (fun _ h => h.elim)) ?_
  rintro s h2 ⟨⟨hs, hk⟩, vf⟩
  simp -implicitDefEqProofs (disch := (first | omega | fail)) only [go_sem, seval, ↓reduceIte, reduceCtorEq]
  exact ⟨hk, vf.n, .inr ⟨b, x, s, rfl, rfl, hs⟩⟩
 ·rw [hg, hl]
  simp -implicitDefEqProofs (disch := (first | omega | fail)) only [go_sem, seval, ↓reduceIte, reduceCtorEq]
def lookE (qs : List Nat) (T : PT) (a n : Int) : Int := match lookT T a n with
 | some (_, x) => if x.ring = [] then 6 else 0
 | none => askE qs T a n
theorem look_ok (hp : PortsAt h I pp mp qs T) (hF : Fit T) (hR : ∀ b, R b) (a n : Int) : SF Try.prog 38 [.ptr (some (pp, 0)), .int .i64 a, .int .i64 n] h R W fun v h' => (∀ b, b < h.n → h'.get b = h.get b) ∧ h.n ≤ h'.n ∧ ((lookE qs T a n ≠ 0 ∧ v = .tuple [.slice none 0 0 true, .int .i64 (lookE qs T a n)]) ∨ ∃ b x s l r, lookT T a n = some (b, x) ∧ lookE qs T a n = 0 ∧ x.ring = l :: r ∧ v = .tuple [s, .int .i64 0] ∧ Own h.n h' s l 5) := by
 refine SF.go hm Try.func38 ir38_eq ?_
 simp -implicitDefEqProofs (disch := (first | omega | fail)) only [go_sem, seval, ↓reduceIte, reduceCtorEq, ir38]
 refine GCall.of (get_ok hp (.inr (hR _)) (.inr (hR _)) a n) ?_
 rintro v h1 ⟨rfl, rfl⟩
 rcases getV_cases hp a n with ⟨b, x, hl, he, hg⟩ | ⟨hl, he, hg⟩
 ·rw [hg]
  have hT := (lookT_some hl).2.2
  obtain ⟨c, f, c1, c2, c3, c4, c5, c6, c7, c8, c9, _⟩ := (hp.pt _ _ _ _ hT).c
  have hRb := hR b
  cases hr : x.ring with
  | nil =>
   rw [hr] at c7
   have hE : lookE qs T a n = 6 := by unfold lookE; rw [hl]; simp [hr]
   have e0 : ((([] : List (List V)).length : Nat) : Int) = 0 := rfl
   simp -implicitDefEqProofs (disch := (first | omega | fail)) only [go_sem, seval, ↓reduceIte, reduceCtorEq, c1, c2, c7, hRb]
   exact .inl (by rw [hE]; exact ⟨by decide, rfl⟩)
  | cons l r =>
   have hE : lookE qs T a n = 0 := by unfold lookE; rw [hl]; simp [hr]
   rw [hr] at c7 c9
   have hz : ¬ ((l :: r).length : Int) = 0 := by simp only [List.length_cons]; omega
   have c90 := c9 0 (by simp)
   rw [Nat.add_zero, Nat.mod_eq_of_lt c5, List.getD_cons_zero] at c90
   have hb := (hF _ _ _ _ hT).2 l (by rw [hr]; simp)
   generalize ((l :: r).length : Int) = m at c7 hz
   simp -implicitDefEqProofs (disch := (first | omega | fail)) only [go_sem, seval, ↓reduceIte, reduceCtorEq, c1, c2, c6, c7, hRb]
   refine GCallD.of (R' := fun _ => True) (W' := fun _ => False) (((clone67 (R := fun _ => True) (W := fun _ => False) c90 (fun _ => trivial) (by omega) (allOne_byt hb.1)).kept).foot (fun _ h => h) (fun _ h => h.elim)) ?_
   rintro s h2 ⟨⟨hs, hk⟩, vf⟩
   simp -implicitDefEqProofs (disch := (first | omega | fail)) only [go_sem, seval, ↓reduceIte, reduceCtorEq]
   exact ⟨⟨fun _ => .inr (hR b), fun _ => .inr (hR b), fun b _ _ => .inr (hR b), fun b _ h => h.elim⟩, hk, vf.n, .inr ⟨b, x, s, l, r, hl, hE, hr, rfl, hs⟩⟩
 ·rw [hg]
  have hE : lookE qs T a n = askE qs T a n := by unfold lookE; rw [hl]
  simp -implicitDefEqProofs (disch := (first | omega | fail)) only [go_sem, seval, ↓reduceIte, reduceCtorEq]
  exact .inl (by rw [hE]; exact ⟨he, rfl⟩)
theorem drop_tail {x : Pt} {l : List V} {r : List (List V)} (hr : x.ring = l :: r) {f : Nat} {c : Blk} (c9 : ∀ i, i < x.ring.length → LR h I (c.get (1 + (f + i) % 8)) (x.ring.getD i [])) : ∀ i, i < r.length → LR h I (c.get (1 + ((f + 1) % 8 + i) % 8)) (r.getD i []) := fun i hi => by
 have := c9 (i + 1) (by rw [hr]; simp only [List.length_cons]; omega)
 rw [hr, List.getD_cons_succ] at this
 rw [show ((f + 1) % 8 + i) % 8 = (f + (i + 1)) % 8 by omega]
 exact this
theorem MutB.of {a n b : Nat} {x : Pt} (e : T a n = some (b, x)) : MutB mp T b := .inr ⟨a, n, x, e⟩
set_option maxHeartbeats 1000000 in
theorem ptake_ok (hp : PortsAt h I pp mp qs T) (hF : Fit T) (hR : ∀ b, R b) (hW : ∀ b, MutB mp T b → W b) (a n : Int) : SF Try.prog 14 [.ptr (some (pp, 0)), .int .i64 a, .int .i64 n] h R W fun v h' => h.n ≤ h'.n ∧ ((lookE qs T a n ≠ 0 ∧ v = .tuple [.slice none 0 0 true, .int .i64 (lookE qs T a n)] ∧ ∀ b, b < h.n → h'.get b = h.get b) ∨ ∃ b x s l r, lookT T a n = some (b, x) ∧ lookE qs T a n = 0 ∧ x.ring = l :: r ∧ v = .tuple [s, .int .i64 0] ∧ Own h.n h' s l 5 ∧ PortsAt h' I pp mp qs (updT T a.toNat n.toNat (some (b, { x with ring := r }))) ∧ ∀ k, k < h.n → k ≠ b → h'.get k = h.get k) := by
 refine SF.go hm Try.func14 ir14_eq ?_
 simp -implicitDefEqProofs (disch := (first | omega | fail)) only [go_sem, seval, ↓reduceIte, reduceCtorEq, ir14]
 refine GCall.of (((look_ok (R := fun _ => True) (W := fun _ => False) hp hF (fun _ => trivial) a n).kept).foot (fun b _ => .inr (hR b)) (fun _ h => h.elim)) ?_
 rintro v h1 ⟨⟨hk, hn, hres⟩, vf⟩
 rcases hres with ⟨hE, rfl⟩ | ⟨b, x, s, l, r, hl, hE, hr, rfl, hs⟩
 ·simp -implicitDefEqProofs (disch := (first | omega | fail)) only [go_sem, seval, ↓reduceIte, reduceCtorEq, hE]
  exact ⟨hn, .inl ⟨hE, hk⟩⟩
 ·have hp1 := hp.old hk
  obtain ⟨cP, p1, p2, p3, p4⟩ := hp1.c
  have hT := (lookT_some hl).2.2
  have hlk := hp1.look a n
  rw [hl, Option.map_some, Option.getD_some] at hlk
  obtain ⟨c, f, c1, c2, c3, c4, c5, c6, c7, c8, c9, c10⟩ := (hp1.pt _ _ _ _ hT).c
  have hln := (hp1.pt _ _ _ _ hT).len
  have hRb := hR b
  have hRp := hR pp
  have hRm := hR mp
  have hWb : h.n ≤ b ∨ W b := .inr (hW b (MutB.of hT))
  have hbl := Heap.lt_of_get c1
  have hf1 : ((f : Int) + 1).tmod 8 = (((f + 1) % 8 : Nat) : Int) := rfl
  have hz : ¬ ((x.ring.length : Nat) : Int) = 0 := by rw [hr]; simp only [List.length_cons]; omega
  rw [hr] at c7 hln
  have hm1 : (((l :: r).length : Nat) : Int) - 1 = ((r.length : Nat) : Int) := by simp only [List.length_cons]; omega
  simp only [List.length_cons] at hln
  have hml : (-9223372036854775808 : Int) ≤ ((l :: r).length : Int) := by simp only [List.length_cons]; omega
  have hmu : ((l :: r).length : Int) ≤ 100 := by simp only [List.length_cons]; omega
  generalize ((l :: r).length : Int) = m at *
  simp -implicitDefEqProofs (disch := (first | omega | fail)) only [go_sem, seval, ↓reduceIte, reduceCtorEq, undefV, p1, p2, p3, hRp, hRm, hlk, c1, c2, c3, c6, c7, hRb, hWb, hf1, hm1]
  have hbn := (hp.pt _ _ _ _ hT).lt
  obtain ⟨c', hc'⟩ : ∃ c', c' = ((c.set 9 (V.int .i64 (((f + 1) % 8 : Nat) : Int))).set 10 (V.int .i64 ((r.length : Nat) : Int))) := ⟨_, rfl⟩
  have gg : ∀ j, c'.get j = if j = 10 then V.int .i64 ((r.length : Nat) : Int) else if j = 9 then V.int .i64 (((f + 1) % 8 : Nat) : Int) else c.get j := fun j => by rw [hc', Blk.get_set, Blk.get_set]
  have gs : c'.size = 12 := by rw [hc', Blk.size_set, Blk.size_set]; exact c2
  have gr : c'.ro = false := by rw [hc', Blk.ro_set, Blk.ro_set]; exact c3
  rw [← hc']
  have kg : ∀ k, k ≠ b → ((h1.set b (O.cells (c.set 9 (V.int .i64 (((f + 1) % 8 : Nat) : Int))) 82)).set b (O.cells c' 82)).get k = h1.get k := fun k hk => by
   rw [w_set_ne (by simp only [Heap.n_set]; omega) hk, w_set_ne hbl hk]
  have kb : ((h1.set b (O.cells (c.set 9 (V.int .i64 (((f + 1) % 8 : Nat) : Int))) 82)).set b (O.cells c' 82)).get b = some (.cells c' 82) := w_set_eq (by simp only [Heap.n_set]; omega) rfl _
  generalize (h1.set b (O.cells (c.set 9 (V.int .i64 (((f + 1) % 8 : Nat) : Int))) 82)).set b (O.cells c' 82) = g at kg kb ⊢
  have kI : ∀ k, I k → k < h1.n → g.get k = h1.get k := fun k hki _ => kg k (hp.ne82 hki hT)
  have kh : ∀ k, k < h.n → k ≠ b → g.get k = h.get k := fun k h2 h3 => by rw [kg k h3, hk k h2]
  refine ⟨hn, .inr ⟨b, x, s, l, r, hl, hE, hr, rfl, hs.above fun k h2 => kg k (by omega), hp.put hT (fun _ h => h) kh ⟨⟨c', (f + 1) % 8, kb, gs, gr, ?_, by omega, by rw [gg]; rfl, by rw [gg]; rfl, by rw [gg]; exact c8, fun i hi => ?_, fun j hj => ?_⟩, by show r.length ≤ 8; omega⟩ fun k hk => .inl hk, kh⟩⟩
  ·rw [gg]; exact LRs.same c4 kI
  ·rw [gg, if_neg (by omega), if_neg (by omega)]
   exact (drop_tail hr c9 i hi).same kI
  ·rw [gg, if_neg (by omega), if_neg (by omega)]
   exact (c10 j hj).imp fun l hl => hl.same kI
theorem PortsAt.del (hp : PortsAt h I pp mp qs T) {h' : Heap} {a n b : Nat} {x : Pt} {es' : Ents} {ck : Nat} (e : T a n = some (b, x)) (hk : ∀ k, k < h.n → k ≠ mp → h'.get k = h.get k) (hm' : h'.get mp = some (.map es' ck)) (hP : PMap es' ck) (hg : ∀ k, getP es' k = if k = ((a : Int), (n : Int)) then none else (lookT T k.1 k.2).map fun x => V.ptr (some (x.1, 0))) : PortsAt h' I pp mp qs (updT T a n none) := by
 obtain ⟨⟨c, c1, c2, c3, c4⟩, ip, ⟨es, ck, m1, m2, m3⟩, pt, inj, dom, hq, imm⟩ := id hp
 have kI : ∀ k, I k → k < h.n → h'.get k = h.get k := fun k hki hkn => hk k hkn (fun h0 => by
  obtain ⟨c', e', i1, i2⟩ := imm k hki
  rw [h0, m1] at i1; cases i1)
 have hup : ∀ a' n', updT T a n none a' n' = if a' = a ∧ n' = n then none else T a' n' := fun _ _ => rfl
 have sub : ∀ {a' n' y}, updT T a n none a' n' = some y → T a' n' = some y := fun {a' n' y} e' => by
  rw [hup] at e'
  split at e'
  ·cases e'
  ·exact e'
 refine ⟨⟨c, by rw [kI _ ip (Heap.lt_of_get c1)]; exact c1, c2, c3, c4.same kI⟩, ip, ⟨es', _, hm', hP, fun k => ?_⟩, fun a' n' b' y e' => (pt _ _ _ _ (sub e')).same (hk _ (pt _ _ _ _ (sub e')).lt (hp.ne_mp (sub e'))) kI, fun a1 n1 b1 y1 a2 n2 y2 e1 e2 => inj _ _ _ _ _ _ _ (sub e1) (sub e2), fun a' n' y e' => dom _ _ _ (sub e'), hq, fun k hk' => ?_⟩
 ·rw [hg]
  unfold lookT
  by_cases hc : 0 ≤ k.1 ∧ 0 ≤ k.2
  ·rw [if_pos hc, if_pos hc, hup]
   by_cases hc2 : k.1.toNat = a ∧ k.2.toNat = n
   ·rw [if_pos hc2, if_pos (Prod.ext (by simp only []; omega) (by simp only []; omega))]; rfl
   ·rw [if_neg hc2, if_neg fun h0 => hc2 (by rw [h0]; exact ⟨rfl, rfl⟩)]
  ·rw [if_neg hc, if_neg hc, Option.map_none]
   split <;> rfl
 ·obtain ⟨c', e', i1, i2⟩ := imm k hk'
  exact ⟨c', e', by rw [kI k hk' (Heap.lt_of_get i1)]; exact i1, i2⟩
set_option maxHeartbeats 1000000 in
theorem close_ok (hp : PortsAt h I pp mp qs T) (hR : ∀ b, R b) (hW : ∀ b, MutB mp T b → W b) (a n : Int) : SF Try.prog 17 [.ptr (some (pp, 0)), .int .i64 a, .int .i64 n] h R W fun v h' => h.n ≤ h'.n ∧ ((lookT T a n = none ∧ askE qs T a n ≠ 0 ∧ v = .tuple [.int .i64 0, .int .i64 (askE qs T a n)] ∧ h' = h) ∨ ∃ b x, lookT T a n = some (b, x) ∧ askE qs T a n = 0 ∧ v = .tuple [.int .i64 (x.ring.length : Int), .int .i64 0] ∧ PortsAt h' I pp mp qs (updT T a.toNat n.toNat none) ∧ ∀ k, k < h.n → k ≠ mp → h'.get k = h.get k) := by
 refine SF.go hm Try.func17 ir17_eq ?_
 simp -implicitDefEqProofs (disch := (first | omega | fail)) only [go_sem, seval, ↓reduceIte, reduceCtorEq, ir17]
 refine GCall.of (get_ok hp (.inr (hR _)) (.inr (hR _)) a n) ?_
 rintro v h1 ⟨rfl, rfl⟩
 rcases getV_cases hp a n with ⟨b, x, hl, he, hg⟩ | ⟨hl, he, hg⟩
 ·rw [hg]
  obtain ⟨h0, h2, hT⟩ := lookT_some hl
  obtain ⟨cP, p1, p2, p3, p4⟩ := hp.c
  obtain ⟨c, f, c1, c2, c3, c4, c5, c6, c7, c8, c9, c10⟩ := (hp.pt _ _ _ _ hT).c
  obtain ⟨es, ck, m1, m2, m3⟩ := hp.m
  obtain ⟨es', hd, d1, d2, d3⟩ := del_pair Try.underlying66 pk_75 m1 m2 (a, n)
  have hd' : delV Try.prog 66 h1 (.map (some mp)) (.agg [.int .i64 a, .int .i64 n]) = _ := hd
  have hRb := hR b; have hRp := hR pp; have hRm := hR mp
  have hWm : h1.n ≤ mp ∨ W mp := .inr (hW mp (.inl rfl))
  have hml := Heap.lt_of_get m1
  have hne := hp.ne_mp hT
  simp -implicitDefEqProofs (disch := (first | omega | fail)) only [go_sem, seval, ↓reduceIte, reduceCtorEq, undefV, p1, p2, p3, hRp, hRb, hWm, hd', c1, c2, c7]
  have hk : ∀ k, k < h1.n → k ≠ mp → (h1.set mp (.map es' ck)).get k = h1.get k := fun k _ h4 => w_set_ne hml h4 _
  exact .inr ⟨b, x, hl, he, rfl, hp.del hT hk (w_set_eq hml rfl _) d1 fun k => by rw [d2, m3, show ((a.toNat : Nat) : Int) = a by omega, show ((n.toNat : Nat) : Int) = n by omega], hk⟩
 ·rw [hg]
  simp -implicitDefEqProofs (disch := (first | omega | fail)) only [go_sem, seval, ↓reduceIte, reduceCtorEq]
  exact .inl ⟨hl, he⟩
def Pt.put (x : Pt) (l : List V) : Pt := if x.ring.length = 8 then { x with lost := IntKind.i64.wrap (x.lost + 1) } else { x with ring := x.ring ++ [l] }
theorem getD_app_lt {r : List (List V)} {l : List V} {i : Nat} (hi : i < r.length) : (r ++ [l]).getD i [] = r.getD i [] := by
 rw [List.getD_eq_getElem?_getD, List.getElem?_append_left hi, ← List.getD_eq_getElem?_getD]
theorem getD_app_eq {r : List (List V)} {l : List V} : (r ++ [l]).getD r.length [] = l := by
 rw [List.getD_eq_getElem?_getD, List.getElem?_append_right (Nat.le_refl _), Nat.sub_self]; rfl
theorem PortAt.cells {b : Nat} {x : Pt} (hp : PortAt h I b x) : ∃ c, h.get b = some (.cells c 82) := by
 obtain ⟨c, f, c1, _⟩ := hp.c; exact ⟨c, c1⟩
def Fresh (h h' : Heap) (e : TypeId) : Set' := fun b => h.n ≤ b ∧ ∃ c, h'.get b = some (.cells c e)
set_option maxHeartbeats 2000000 in
theorem put_ok {b : Nat} {x : Pt} {S : Set'} {v : V} {l : List V} (hx : PortAt h I b x) (hib : ∀ k, I k → k ≠ b) (hv : LR h S v l) (hb : Byt l) (hl : l.length ≤ 64) (hR : ∀ b, R b) (hW : W b) : SF Try.prog 36 [.ptr (some (b, 0)), v] h R W fun r h' => r = .bool (decide (x.ring.length ≠ 8)) ∧ PortAt h' (fun k => I k ∨ Fresh h h' 5 k) b (x.put l) ∧ h.n ≤ h'.n ∧ ∀ k, k < h.n → k ≠ b → h'.get k = h.get k := by
 obtain ⟨c, f, c1, c2, c3, c4, c5, c6, c7, c8, c9, c10⟩ := hx.c
 have hln := hx.len
 have hRb := hR b
 have hWb : h.n ≤ b ∨ W b := .inr hW
 have hbl := Heap.lt_of_get c1
 refine SF.go hm Try.func36 ir36_eq ?_
 by_cases h8 : x.ring.length = 8
 ·rw [h8] at c7
  have c7' : c.get 10 = .int .i64 8 := c7
  simp -implicitDefEqProofs (disch := (first | omega | fail)) only [go_sem, seval, ↓reduceIte, reduceCtorEq, ir36, undefV, c1, c2, c3, c7', c8, hRb, hWb]
  have hpu : x.put l = { x with lost := IntKind.i64.wrap (x.lost + 1) } := if_pos h8
  rw [decide_eq_false (fun h => h h8), hpu]
  have kI : ∀ k, I k → k < h.n → (h.set b (.cells (c.set 11 (.int .i64 (IntKind.i64.wrap (x.lost + 1)))) 82)).get k = h.get k := fun k hk _ => w_set_ne hbl (hib k hk) _
  refine ⟨rfl, ⟨⟨c.set 11 (.int .i64 (IntKind.i64.wrap (x.lost + 1))), f, w_set_eq hbl rfl _, by rw [Blk.size_set]; exact c2, by rw [Blk.ro_set]; exact c3, ?_, c5, by rw [Blk.get_set]; exact c6, by rw [Blk.get_set, if_neg (by omega), c7', h8]; rfl, by rw [Blk.get_set]; rfl, fun i hi => ?_, fun j hj => ?_⟩, hln⟩, fun k _ hk => w_set_ne hbl hk _⟩
  ·rw [Blk.get_set, if_neg (by omega)]
   exact (LRs.same c4 kI).mono fun k _ hk => .inl hk
  ·rw [Blk.get_set, if_neg (by omega)]
   exact ((c9 i hi).same kI).mono fun k _ hk => .inl hk
  ·rw [Blk.get_set, if_neg (by omega)]
   exact (c10 j hj).imp fun l hl => (hl.same kI).mono fun k _ hk => .inl hk
 ·have hz : ¬ ((x.ring.length : Nat) : Int) = 8 := by omega
  have hf1 : ((f : Int) + (x.ring.length : Int)).tmod 8 = (((f + x.ring.length) % 8 : Nat) : Int) := rfl
  have hlt8 : (f + x.ring.length) % 8 < 8 := Nat.mod_lt _ (by omega)
  have hbd : ((x.ring.length : Nat) : Int) ≤ 8 := by omega
  simp -implicitDefEqProofs (disch := (first | omega | fail)) only [go_sem, seval, ↓reduceIte, reduceCtorEq, ir36, c1, c2, c6, c7, hRb, hf1]
  refine GCallD.of (R' := fun _ => True) (W' := fun _ => False) (((clone67 (R := fun _ => True) (W := fun _ => False) hv (fun _ => trivial) (by omega) (allOne_byt hb)).kept).foot (fun _ h => h) (fun _ h => h.elim)) ?_
  rintro s h2 ⟨⟨hs, hk⟩, vf⟩
  have hn2 := vf.n
  have c1' := (hk b hbl).trans c1
  have hbl2 := Heap.lt_of_get c1'
  have hso : s.one = true := hs.lr.one
  have hsc : s.cellsV = [s] := hs.lr.cells
  simp -implicitDefEqProofs (disch := (first | omega | fail)) only [go_sem, seval, ↓reduceIte, reduceCtorEq, undefV, c1', c2, c3, c7, hRb, hWb, ↓hso, ↓hsc]
  refine ⟨?_, ⟨fun k _ _ => .inr (hR k), fun _ _ h => h.elim⟩, ?_⟩
  ·simp only [List.not_mem_nil, or_false, false_or, and_false, false_implies, implies_true, not_false_eq_true, List.mem_cons, and_true]
   try and_intros
   all_goals (intros; omega)
  have hpu : x.put l = { x with ring := x.ring ++ [l] } := if_neg h8
  rw [decide_eq_true h8, hpu]
  obtain ⟨c', hc'⟩ : ∃ c', c' = ((c.set (1 + (f + x.ring.length) % 8) s).set 10 (V.int .i64 ((x.ring.length : Int) + 1))) := ⟨_, rfl⟩
  have gg : ∀ j, c'.get j = if j = 10 then V.int .i64 ((x.ring.length : Int) + 1) else if j = 1 + (f + x.ring.length) % 8 then s else c.get j := fun j => by rw [hc', Blk.get_set, Blk.get_set]
  have gs : c'.size = 12 := by rw [hc', Blk.size_set, Blk.size_set]; exact c2
  have gr : c'.ro = false := by rw [hc', Blk.ro_set, Blk.ro_set]; exact c3
  rw [← hc']
  have kg : ∀ k, k ≠ b → ((h2.set b (O.cells (c.set (1 + (f + x.ring.length) % 8) s) 82)).set b (O.cells c' 82)).get k = h2.get k := fun k hk => by
   rw [w_set_ne (by simp only [Heap.n_set]; omega) hk, w_set_ne hbl2 hk]
  have kb : ((h2.set b (O.cells (c.set (1 + (f + x.ring.length) % 8) s) 82)).set b (O.cells c' 82)).get b = some (.cells c' 82) := w_set_eq (by simp only [Heap.n_set]; omega) rfl _
  have kn : ((h2.set b (O.cells (c.set (1 + (f + x.ring.length) % 8) s) 82)).set b (O.cells c' 82)).n = h2.n := by simp only [Heap.n_set]
  generalize (h2.set b (O.cells (c.set (1 + (f + x.ring.length) % 8) s) 82)).set b (O.cells c' 82) = g at kg kb kn ⊢
  have kI : ∀ k, I k → k < h.n → g.get k = h.get k := fun k hki hkn => by rw [kg k (hib k hki), hk k hkn]
  have so : LR g (fun k => I k ∨ Fresh h g 5 k) s l := by
   refine (hs.lrf.same fun k h1 _ => kg k ?_).mono fun k _ h1 => .inr ⟨h1.1, ?_⟩
   ·have := h1.1; omega
   ·obtain ⟨c'', h3⟩ := h1.2
    exact ⟨c'', by rw [kg k (by have := h1.1; omega)]; exact h3⟩
  refine ⟨rfl, ⟨⟨c', f, kb, gs, gr, ?_, c5, by rw [gg, if_neg (by omega), if_neg (by omega)]; exact c6, by rw [gg, if_pos rfl]; simp only [List.length_append, List.length_cons, List.length_nil]; congr 1, by rw [gg, if_neg (by omega), if_neg (by omega)]; exact c8, fun i hi => ?_, fun j hj => ?_⟩, by simp only [List.length_append, List.length_cons, List.length_nil]; omega⟩, hn2, fun k h1 h3 => by rw [kg k h3, hk k h1]⟩
  ·rw [gg, if_neg (by omega), if_neg (by omega)]
   exact (LRs.same c4 kI).mono fun k _ hk => .inl hk
  ·simp only [List.length_append, List.length_cons, List.length_nil] at hi
   rw [gg, if_neg (by omega)]
   by_cases hie : i = x.ring.length
   ·subst hie
    rw [if_pos rfl, getD_app_eq]; exact so
   ·rw [if_neg (by omega), getD_app_lt (by omega)]
    exact ((c9 i (by omega)).same kI).mono fun k _ hk => .inl hk
  ·rw [gg, if_neg (by omega)]
   by_cases hj2 : 1 + j = 1 + (f + x.ring.length) % 8
   ·rw [if_pos hj2]; exact ⟨l, so⟩
   ·rw [if_neg hj2]
    exact (c10 j hj).imp fun l hl => (hl.same kI).mono fun k _ hk => .inl hk
end Go.Proofs.Ytmimialblhlklaa
