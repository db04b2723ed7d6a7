/- The document's ports: what Come does, round by round. -/
import Derived.Test.YtmimialblhlklaaN3
set_option linter.unusedVariables false
set_option maxRecDepth 100000
namespace Go.Proofs.Ytmimialblhlklaa
open Go Go.Vm
variable {h : Heap} {R W I : Set'} {rd : Nat} {bl : Nat → Nat} {qs : List Nat} {S : AT}
def openP (S : AT) (i p : Nat) : List Nat := (List.range p).filter fun n : Nat => (S i n).isSome
theorem openP_none {i p : Nat} (h : S i p = none) : openP S i (p + 1) = openP S i p := by
 unfold openP
 rw [List.range_succ, List.filter_append, List.filter_cons, h]; simp
theorem openP_some {i p : Nat} {x : Pt} (h : S i p = some x) : openP S i (p + 1) = openP S i p ++ [p] := by
 unfold openP
 rw [List.range_succ, List.filter_append, List.filter_cons, h]; rfl
theorem openP_lt {i p n : Nat} (h : n ∈ openP S i p) : n < p := by
 unfold openP at h
 exact List.mem_range.1 (List.mem_filter.1 h).1
theorem openP_len (S : AT) (i p : Nat) : (openP S i p).length ≤ p := Nat.le_trans (List.length_filter_le _ _) (by simp)
theorem comeS_at {i p : Nat} {l : List V} : comeS S i l (openP S i p) i p = S i p := by
 unfold comeS
 cases S i p with
 | none => rfl
 | some x => rw [Option.map_some, if_neg fun h => by have := openP_lt h.2.1; omega]
theorem comeS_no {i p : Nat} {l : List V} {x : Pt} {P : List Nat} (h : S i p = some x) (hm : matchP x.ts l = false) : comeS S i l (P ++ [p]) = comeS S i l P := by
 funext a n
 unfold comeS
 cases e : S a n with
 | none => rfl
 | some y =>
  simp only [Option.map_some, List.mem_append, List.mem_singleton]
  by_cases hc : a = i ∧ n = p
  ·obtain ⟨rfl, rfl⟩ := hc
   rw [h] at e; cases e
   rw [if_neg fun h => by rw [hm] at h; exact absurd h.2.2 (by decide), if_neg fun h => by rw [hm] at h; exact absurd h.2.2 (by decide)]
  ·have : (a = i ∧ (n ∈ P ∨ n = p) ∧ matchP y.ts l = true) ↔ (a = i ∧ n ∈ P ∧ matchP y.ts l = true) := ⟨fun h => ⟨h.1, h.2.1.resolve_right fun e => hc ⟨h.1, e⟩, h.2.2⟩, fun h => ⟨h.1, .inl h.2.1, h.2.2⟩⟩
   simp only [this]
theorem comeS_yes {i p : Nat} {l : List V} {x : Pt} {P : List Nat} (h : S i p = some x) (hm : matchP x.ts l = true) : comeS S i l (P ++ [p]) = updA (comeS S i l P) i p (some (x.put l)) := by
 funext a n
 unfold updA
 by_cases hc : a = i ∧ n = p
 ·obtain ⟨rfl, rfl⟩ := hc
  rw [if_pos ⟨rfl, rfl⟩]
  unfold comeS
  rw [h, Option.map_some, if_pos ⟨rfl, by simp, hm⟩]
 ·rw [if_neg hc]
  unfold comeS
  cases e : S a n with
  | none => rfl
  | some y =>
   simp only [Option.map_some, List.mem_append, List.mem_singleton]
   have : (a = i ∧ (n ∈ P ∨ n = p) ∧ matchP y.ts l = true) ↔ (a = i ∧ n ∈ P ∧ matchP y.ts l = true) := ⟨fun h => ⟨h.1, h.2.1.resolve_right fun e => hc ⟨h.1, e⟩, h.2.2⟩, fun h => ⟨h.1, .inl h.2.1, h.2.2⟩⟩
   simp only [this]
theorem comeP_no {i p : Nat} {l : List V} {x : Pt} {P : List Nat} (h : S i p = some x) (hm : matchP x.ts l = false) : comeP S i l (P ++ [p]) = comeP S i l P := by
 unfold comeP
 rw [List.flatMap_append]
 simp [h, hm]
theorem comeP_yes {i p : Nat} {l : List V} {x : Pt} {P : List Nat} (h : S i p = some x) (hm : matchP x.ts l = true) : comeP S i l (P ++ [p]) = comeP S i l P ++ [(p, decide (x.ring.length = 8))] := by
 unfold comeP
 rw [List.flatMap_append]
 simp [h, hm]
theorem comeS_nil {i : Nat} {l : List V} : comeS S i l [] = S := by
 funext a n
 unfold comeS
 cases e : S a n with
 | none => rfl
 | some y => simp
theorem flatMap_le {f : Nat → List (Nat × Bool)} (hf : ∀ n, (f n).length ≤ 1) : ∀ P : List Nat, (P.flatMap f).length ≤ P.length
 | [] => by simp
 | p :: P => by
  rw [List.flatMap_cons, List.length_append, List.length_cons]
  have := hf p
  have := flatMap_le hf P
  omega
theorem comeP_le2 (S : AT) (i : Nat) (l : List V) (P : List Nat) : (comeP S i l P).length ≤ P.length := by
 unfold comeP
 refine flatMap_le (fun n => ?_) P
 split
 ·split <;> simp
 ·simp
structure RC (h : Heap) (I : Set') (rd : Nat) (bl : Nat → Nat) (qs : List Nat) (S : AT) (w : V) (L : List (Nat × Bool)) (g : Heap) : Prop where
 n : h.n ≤ g.n
 k : ∀ k, k < h.n → (∀ a, a < qs.length → k ≠ bl a) → g.get k = h.get k
 r : ∃ I', RPorts g I' rd bl qs S ∧ ∀ k, I' k → I k ∨ (h.n ≤ k ∧ ∃ c e, g.get k = some (.cells c e) ∧ (e = 36 ∨ e = 5))
 o : OwnS 2 h.n g w L.length (flatC L) 41
theorem RC.old {w : V} {L : List (Nat × Bool)} {g gx : Heap} (hc : RC h I rd bl qs S w L g) (hn : g.n ≤ gx.n) (hk : ∀ k, k < g.n → gx.get k = g.get k) : RC h I rd bl qs S w L gx := by
 obtain ⟨h1, h2, ⟨I', h3, h4⟩, h5⟩ := hc
 refine ⟨by omega, fun k h6 h7 => by rw [hk k (by omega)]; exact h2 k h6 h7, ⟨I', h3.old hk, fun k h6 => (h4 k h6).imp id fun h => ?_⟩, h5.old hk⟩
 obtain ⟨q1, c, e, q2, q3⟩ := h
 exact ⟨q1, c, e, by rw [hk k (Heap.lt_of_get q2)]; exact q2, q3⟩
theorem allOne_of : ∀ {l : List V}, (∀ v ∈ l, v.one = true) → allOne l = true
 | [], _ => rfl
 | v :: l, h => by
  have h1 := h v (by simp)
  have h2 := allOne_of fun w hw => h w (List.mem_cons_of_mem v hw)
  simp only [allOne, h1, h2]
theorem RC.app {w : V} {L : List (Nat × Bool)} {g : Heap} (hc : RC h I rd bl qs S w L g) (hIl : ∀ k, I k → k < h.n) (hL : L.length ≤ 1000) (n : Nat) (b : Bool) :
  ∃ v2 h2 r w2, appE 41 2 16 w (.slice (some (g.n, 0)) 1 1 true) (g.push (.cells (Blk.of [.int .i64 (n : Int), .bool b]) 41)) = some ⟨v2, h2, r, w2⟩ ∧ (∀ b ∈ w2, h.n ≤ b) ∧ RC h I rd bl qs S v2 (L ++ [(n, b)]) h2 := by
 obtain ⟨h1, h2, ⟨I', h3, h4⟩, h5⟩ := hc
 obtain ⟨v2, H2, r, w2, a1, a2, a3, a4, a5⟩ := app_came (x := (n : Int)) (y := b) h5 h1 (by omega)
 have kI : ∀ k, I' k → H2.get k = g.get k := fun k hk => by
  obtain ⟨c, e, q1, _⟩ := h3.imm k hk
  refine a5 k (Heap.lt_of_get q1) ?_
  rcases h4 k hk with h6 | ⟨_, c', e', h7, h8⟩
  ·exact .inl (hIl k h6)
  ·refine .inr fun c3 e3 => ?_
   rw [h7] at e3; cases e3
   rcases h8 with h8 | h8 <;> cases h8
 refine ⟨v2, H2, r, w2, a1, fun b hb => (a4 b hb).elim (fun h => h.2) fun h => by omega, by omega, fun k hk hne => by rw [a5 k (by omega) (.inl hk)]; exact h2 k hk hne, ⟨I', h3.same fun k hk => ?_, fun k hk => (h4 k hk).imp id fun h => ?_⟩, by rw [List.length_append, flatC_snoc]; exact a3⟩
 ·rcases hk with hk | ⟨a, ha, rfl⟩
  ·exact kI k hk
  ·obtain ⟨c, q1, _⟩ := h3.b a _ (List.getElem?_eq_getElem ha)
   exact a5 _ (Heap.lt_of_get q1) (.inr fun c3 e3 => by rw [q1] at e3; cases e3)
 ·obtain ⟨q1, c, e, q2, q3⟩ := h
  exact ⟨q1, c, e, by rw [kI k hk]; exact q2, q3⟩
theorem RingV.first {v : V} {r : List (List V)} (hv : RingV h I v r) : ∃ sl rs, lenOfV v = some sl.length ∧ firstV h 1 sl.length v = some (sl, rs) ∧ sl.length = r.length ∧ allOne sl = true ∧ ∀ i w, sl[i]? = some w → LR h I w (r.getD i []) := by
 rcases hv with ⟨rfl, a, l, rfl⟩ | ⟨sl, h1, _, h2, h3⟩
 ·exact ⟨[], [], rfl, rfl, rfl, rfl, fun i w e => by simp at e⟩
 ·obtain ⟨hx, rs, hf, _⟩ := first_lr h1
  refine ⟨sl, rs, hx, hf, h2, allOne_of fun w hw => ?_, h3⟩
  obtain ⟨i, hi, rfl⟩ := List.mem_iff_getElem.1 hw
  exact (h3 i _ (List.getElem?_eq_getElem hi)).one
set_option maxHeartbeats 4000000 in
theorem rcome_loop {S0 : Set'} {v : V} {l : List V} {i q : Nat} {tr : Tr V} {Q : Ex → Fr → Heap → Prop} {t : List It}
  (hr0 : RPorts h I rd bl qs S) (h8 : ∀ a n x, S a n = some x → x.ring.length ≤ 8 ∧ okF x.ts) (hv : LR h S0 v l) (hS0 : ∀ k, S0 k → k < h.n ∧ ∀ a, a < qs.length → k ≠ bl a) (hby : Byt l) (hl0 : 0 < l.length) (hl6 : l.length ≤ 64) (hR : ∀ b, R b) (hW : ∀ a, a < qs.length → W (bl a)) (hq : qs[i]? = some q)
  (t0 : tr.get 0 = some (.ptr (some (rd, 0)))) (t1 : tr.get 1 = some v) (t6 : tr.get 6 = some (.int .i64 (i : Int))) (t7 : tr.get 7 = some (.bool true)) (t8 : tr.get 8 = some (.slice none 0 0 true)) (t9 : tr.get 9 = some (.int .i64 0))
  (hk : ∀ tr' w' g', tr'.get 8 = some w' → RC h I rd bl qs (comeS S i l (openP S i q)) w' (comeP S i l (openP S i q)) g' → resume ⟨Try.prog, false⟩ (fun b => h.n ≤ b ∨ R b) (fun b => h.n ≤ b ∨ W b) none Q t (.exit 0) ⟨⟨105, tr'⟩, []⟩ g') :
  GLoop ⟨Try.prog, false⟩ (fun b => h.n ≤ b ∨ R b) (fun b => h.n ≤ b ∨ W b) none Q ir44_l0 t ⟨⟨105, tr⟩, []⟩ h := by
 refine GLoop.inv hm (fun k f g => f.mks = [] ∧ f.tm.n = 105 ∧ f.tm.get 0 = some (.ptr (some (rd, 0))) ∧ f.tm.get 1 = some v ∧ f.tm.get 6 = some (.int .i64 (i : Int)) ∧ f.tm.get 7 = some (.bool true) ∧ ∃ (p : Nat) (w : V), p + k = q ∧ f.tm.get 8 = some w ∧ f.tm.get 9 = some (.int .i64 (p : Int)) ∧ RC h I rd bl qs (comeS S i l (openP S i p)) w (comeP S i l (openP S i p)) g) q ?_ ?_
 ·exact ⟨rfl, rfl, t0, t1, t6, t7, 0, _, by omega, t8, t9, ⟨Nat.le_refl _, fun _ _ _ => rfl, ⟨I, by rw [show openP S i 0 = [] from rfl, comeS_nil]; exact hr0, fun _ h => .inl h⟩, OwnS.nil _ _ _ _⟩⟩
 clear t0 t1 t6 t7 t8 t9
 have hIh : ∀ k, I k → k < h.n := fun k hk => by obtain ⟨c, e, h1, _⟩ := hr0.imm k hk; exact Heap.lt_of_get h1
 rintro k ⟨⟨n', tr⟩, mks⟩ g ⟨hmk, hn', t0, t1, t6, t7, p, w, hpk, t8, t9, hc⟩
 simp only [Tm.get_mk] at hmk hn' t0 t1 t6 t7 t8 t9
 subst hmk hn'
 have hc0 := hc
 obtain ⟨hgn, hgo, ⟨I', hr, hI'⟩, ho⟩ := hc
 have hq16 := hr.qs.2.2 q (List.mem_of_getElem? hq)
 have hi : i < qs.length := (List.getElem?_eq_some_iff.1 hq).1
 have ha : okA qs (i : Int) := ⟨by omega, by omega⟩
 have hRd := hR rd; have hRl := hR (bl i)
 have hz1 : (i : Int) < (qs.length : Int) := ha.2
 have hi0 : (0 : Int) ≤ (i : Int) := ha.1
 have hm0 : (0 : Int) ≤ (p : Int) := by omega
 simp -implicitDefEqProofs (disch := (first | omega | (simp -implicitDefEqProofs only [szs, ne_eq] <;> omega) | fail)) only [go_sem, seval, ↓reduceIte, reduceCtorEq, ir44_l0, t0, t6, t7]
 refine GCall.of (rin_ok hr (fun b => .inr (hR b)) (i : Int)) ?_
 rintro r g' ⟨rfl, rfl⟩
 rw [decide_eq_true ha]
 by_cases hpq : p < q
 rotate_left
 ·have hz2 : ¬ (p : Int) < (q : Int) := by omega
  obtain rfl : p = q := by omega
  obtain ⟨c, b, o, cap, ex, cc, ce, c1, c2, c3, c4, c5, c6, _⟩ := hr.acc hi
  rw [show qs[i] = p by rw [List.getElem?_eq_getElem hi] at hq; exact Option.some.inj hq] at c6
  have hRb := hR b
  simp -implicitDefEqProofs (disch := (first | omega | (simp -implicitDefEqProofs only [szs, ne_eq] <;> omega) | fail)) only [go_sem, seval, ↓reduceIte, reduceCtorEq, t0, t6, t9, c1, c2, c3, c4, c6, hRd, hRb, hz1, hi0, hz2]
  exact hk _ _ _ (by simp -implicitDefEqProofs (disch := (first | omega | (simp -implicitDefEqProofs only [szs, ne_eq] <;> omega) | fail)) only [go_sem, seval, ↓reduceIte, t8]) hc0
 obtain ⟨c, b, o, cap, ex, cc, ce, cb, c1, c2, c3, c4, c5, c6, b1, b2, b3, b4, hsz⟩ := hr.at' hq hpq
 have hRb := hR b
 have hz2 : (p : Int) < (q : Int) := by omega
 have hm4 := b4 p hpq
 rw [comeS_at] at hm4
 obtain ⟨o0, o1, o2, o3⟩ := hm4.ones
 have hlb := Heap.lt_of_get b1
 have hRn := hR g'.n
 have hWn : h.n ≤ g'.n ∨ W g'.n := .inl hgn
 cases hS : S i p with
 | none =>
  rw [hS] at hm4
  obtain ⟨p0, p1, p2, p3⟩ := hm4
  simp -implicitDefEqProofs (disch := (first | omega | (simp -implicitDefEqProofs only [szs, ne_eq] <;> omega) | fail)) only [go_sem, seval, ↓reduceIte, reduceCtorEq, undefV, t0, t1, t6, t7, t8, t9, c1, c2, c3, c4, c6, hRd, hRb, hRl, hz1, hi0, hz2, hm0, b1, p0, p1, p2, p3, hRn, hWn]
  refine ⟨k - 1, by omega, p + 1, w, by omega, rfl, by simp, ?_⟩
  rw [openP_none hS]
  exact hc0.old (by simp) fun k hk => by rw [w_set_ne (by simp) (by omega), w_push_ne (by omega)]
 | some x =>
  rw [hS] at hm4
  obtain ⟨p0, p1, p2, p3⟩ := hm4
  have q1 := LRs.one p1; have q2 := p2.one
  simp -implicitDefEqProofs (disch := (first | omega | (simp -implicitDefEqProofs only [szs, ne_eq] <;> omega) | fail)) only [go_sem, seval, ↓reduceIte, reduceCtorEq, undefV, t0, t1, t6, t9, c1, c2, c3, c4, c6, hRd, hRb, hRl, hz1, hi0, hz2, hm0, b1, p0, p3, ↓q1, ↓q2, hRn, hWn]
  obtain ⟨gx, eX⟩ : ∃ gx, gx = (g'.push (O.cells (Blk.of [V.bool false, V.slice none 0 0 true, V.slice none 0 0 true, V.int IntKind.i64 0]) 109)).set g'.n (O.cells (((((Blk.of [V.bool false, V.slice none 0 0 true, V.slice none 0 0 true, V.int IntKind.i64 0]).set 0 (V.bool true)).set 1 (cb.get (p * 4 + 1))).set 2 (cb.get (p * 4 + 2))).set 3 (V.int IntKind.i64 x.lost)) 109) := ⟨_, rfl⟩
  rw [← eX]
  have nX : gx.n = g'.n + 1 := by rw [eX]; simp
  have kX : ∀ k, k < g'.n → gx.get k = g'.get k := fun k hk => by rw [eX, w_set_ne (by simp) (by omega), w_push_ne (by omega)]
  have bX : gx.get g'.n = some (O.cells (((((Blk.of [V.bool false, V.slice none 0 0 true, V.slice none 0 0 true, V.int IntKind.i64 0]).set 0 (V.bool true)).set 1 (cb.get (p * 4 + 1))).set 2 (cb.get (p * 4 + 2))).set 3 (V.int IntKind.i64 x.lost)) 109) := by rw [eX]; exact w_set_eq (by simp) rfl _
  clear eX
  have hcx := hc0.old (by omega) kX
  have hrx := hr.old kX
  have hvg : LR gx S0 v l := hv.same fun k h1 h2 => by rw [kX k (by omega)]; exact hgo k h2 (hS0 k h1).2
  have hIl : ∀ k, I' k → k < g'.n := fun k hk => by obtain ⟨c, e, h1, _⟩ := hr.imm k hk; exact Heap.lt_of_get h1
  have p1x : TestsV gx I' (cb.get (p * 4 + 1)) x.ts := LRs.same p1 fun k h1 h2 => kX k (hIl k h1)
  have p2x : RingV gx I' (cb.get (p * 4 + 2)) x.ring := p2.same fun k h1 => kX k (hIl k h1)
  have c1x := (kX rd (Heap.lt_of_get c1)).trans c1
  have c4x := (kX b (Heap.lt_of_get c4)).trans c4
  have b1x := (kX (bl i) hlb).trans b1
  have hWl : h.n ≤ bl i ∨ W (bl i) := .inr (hW i hi)
  have hlen := (h8 _ _ _ hS).1
  refine GCall.of (rmatch_ok hvg hby p1x (fun b => .inr (hR b))) ?_
  rintro r gx' ⟨rfl, rfl⟩
  cases hmt : matchP x.ts l with
  | false =>
   simp -implicitDefEqProofs (disch := (first | omega | (simp -implicitDefEqProofs only [szs, ne_eq] <;> omega) | fail)) only [go_sem, seval, ↓reduceIte, reduceCtorEq, t0, t1, t6, t7, t8, t9]
   refine ⟨k - 1, by omega, p + 1, w, by omega, rfl, by simp, ?_⟩
   rw [openP_some hS, comeS_no hS hmt, comeP_no hS hmt]
   exact hcx
  | true =>
   by_cases h88 : x.ring.length = 8
   ·have hsl := p2x.lenV
    rw [h88] at hsl
    have e8 : ((8 : Nat) : Int) = 8 := rfl
    simp -implicitDefEqProofs (disch := (first | omega | (simp -implicitDefEqProofs only [szs, ne_eq] <;> omega) | fail)) only [go_sem, seval, ↓reduceIte, reduceCtorEq, undefV, t0, t1, t6, t7, t8, t9, nX, bX, hRn, ↓hsl, e8, c1x, c2, c3, c4x, c6, hRd, hRb, hRl, hWl, hz1, hi0, hz2, hm0, b1x, b3, p3]
    have hlx := Heap.lt_of_get b1x
    obtain ⟨g4, e4⟩ : ∃ g4, g4 = gx'.set (bl i) (O.cells (cb.set (p * 4 + 3) (V.int IntKind.i64 (IntKind.i64.wrap (x.lost + 1)))) 109) := ⟨_, rfl⟩
    have n4 : g4.n = gx'.n := by rw [e4]; simp
    have k4 : ∀ k, k ≠ bl i → g4.get k = gx'.get k := fun k hk => by rw [e4]; exact w_set_ne hlx hk _
    have b4' : g4.get (bl i) = some (O.cells (cb.set (p * 4 + 3) (V.int IntKind.i64 (IntKind.i64.wrap (x.lost + 1)))) 109) := by rw [e4]; exact w_set_eq hlx rfl _
    rw [← e4, ← nX, ← n4]
    clear e4
    have hput : x.put l = { x with lost := IntKind.i64.wrap (x.lost + 1) } := by unfold Pt.put; rw [if_pos h88]
    have kI : ∀ k, I' k → g4.get k = gx'.get k := fun k hk => k4 k fun e => by
     obtain ⟨c', e', h1', h2', _⟩ := hrx.imm k hk
     rw [e, b1x] at h1'; cases h1'; exact h2' rfl
    have hr4 : RPorts g4 I' rd bl qs (updA (comeS S i l (openP S i p)) i p (some (x.put l))) := by
     refine hrx.put hq hpq b1x b4' (by rw [Blk.size_set]) (by rw [Blk.ro_set]; exact b3) ?_ (fun j hj => by rw [Blk.get_set, if_neg (by omega)]) (fun k _ hk => k4 k hk) (fun _ h => h) fun k h => .inl h
     rw [hput]
     refine ⟨?_, ?_, ?_, ?_⟩
     ·rw [Blk.get_set, if_neg (by omega)]; exact p0
     ·rw [Blk.get_set, if_neg (by omega)]; exact LRs.same p1x fun k h _ => kI k h
     ·rw [Blk.get_set, if_neg (by omega)]; exact p2x.same kI
     ·rw [Blk.get_set, if_pos rfl]
    have hc4 : RC h I rd bl qs (updA (comeS S i l (openP S i p)) i p (some (x.put l))) w (comeP S i l (openP S i p)) g4 := by
     refine ⟨by omega, fun k h1 h2 => by rw [k4 k (h2 i hi)]; exact hcx.k k h1 h2, ⟨I', hr4, fun k hk => (hI' k hk).imp id fun h1 => ?_⟩, hcx.o.keep fun b' c' h1 _ => ?_⟩
     ·obtain ⟨q1, c, e, q2, q3⟩ := h1
      exact ⟨q1, c, e, by rw [kI k hk, kX k (hIl k hk)]; exact q2, q3⟩
     ·rw [k4 b' fun e => by rw [e, b1x] at h1; cases h1]; exact h1
    obtain ⟨v5, h5, r5, w5, ap5, w5n, hc5⟩ := hc4.app hIh (Nat.le_trans (comeP_le2 _ _ _ _) (by have := openP_len S i p; omega)) p true
    have hr5 : allB (fun b => h.n ≤ b ∨ R b) r5 := allB_of fun b _ => .inr (hR b)
    have hw5 : allB (fun b => h.n ≤ b ∨ W b) w5 := allB_of fun b hb => .inl (w5n b hb)
    rw [appendV_of ap_37, ap5]
    simp only []
    refine ⟨hr5, hw5, k - 1, by omega, p + 1, v5, by omega, rfl, by simp, ?_⟩
    rw [openP_some hS, comeS_yes hS hmt, comeP_yes hS hmt, decide_eq_true h88]
    exact hc5
   ·have hz8 : ¬ (x.ring.length : Int) = 8 := by omega
    have hsl := p2x.lenV
    obtain ⟨sl, rs, f1, f2, f3, f4, f5⟩ := p2x.first
    obtain ⟨v1, h1, r1, w1, ap1, o1, n1, k1, w1n, k1', ty1⟩ := app_own (n0 := gx'.n) (h := gx') (v := .slice none 0 0 true) (l := []) (e := 36) (bytes := 24) (Own.nil _ _ _) (Nat.le_refl _) f1 f2 f4 (by simp only [List.length_nil]; omega) (by simp only [List.length_nil]; omega)
    rw [List.nil_append] at o1
    have hv1 : LR h1 S0 v l := hvg.old k1
    obtain ⟨fx, rs2, ff, _⟩ := first_lr hv1
    obtain ⟨v2, h2, r2, w2, ap2, o2, n2, k2, w2n, k2', ty2⟩ := app_own (n0 := h1.n) (h := h1) (v := .slice none 0 0 true) (l := []) (e := 5) (bytes := 1) (Own.nil _ _ _) (Nat.le_refl _) fx ff (allOne_byt hby) (by simp only [List.length_nil]; omega) (by simp only [List.length_nil]; omega)
    rw [List.nil_append] at o2
    have o2o := o2.lr.one
    have o2c := o2.lr.cells
    have kp : ∀ k, k < h2.n → (h2.push (.cells (Blk.of [v2]) 36)).get k = h2.get k := fun k hk => w_push_ne (by omega) _
    obtain ⟨v3, h3, r3, w3, ap3, o3, n3, k3, w3n, k3', ty3⟩ := app_own (n0 := gx'.n) (h := h2.push (.cells (Blk.of [v2]) 36)) (v := v1) (x := .slice (some (h2.n, 0)) 1 1 true) (l := sl) (news := [v2]) (rs := [h2.n]) (e := 36) (bytes := 24) ((o1.old k2).old kp) (by simp; omega) rfl (first_one (w_push_eq rfl _)) (by simp only [allOne, o2o]) (by simp only [List.length_singleton]; omega) (by simp only [List.length_singleton]; omega)
    have o3o := o3.lr.one
    have o3c := o3.lr.cells
    simp only [Heap.n_push] at n3
    have kk : ∀ k, k < gx'.n → h3.get k = gx'.get k := fun k hk => by rw [k3 k hk, kp k (by omega), k2 k (by omega), k1 k hk]
    have b13 := (kk _ (by omega)).trans b1x
    have c13 := (kk _ (Heap.lt_of_get c1x)).trans c1x
    have c43 := (kk _ (Heap.lt_of_get c4x)).trans c4x
    have hA : ∀ r : List Nat, allB (fun b => h.n ≤ b ∨ R b) r := fun r => allB_of fun b _ => .inr (hR b)
    have hr1 := hA r1; have hr2 := hA r2; have hr3 := hA r3
    have hw1 : allB (fun b => h.n ≤ b ∨ W b) w1 := allB_of fun b hb => .inl (by have := w1n b hb; omega)
    have hw2 : allB (fun b => h.n ≤ b ∨ W b) w2 := allB_of fun b hb => .inl (by have := w2n b hb; omega)
    have hw3 : allB (fun b => h.n ≤ b ∨ W b) w3 := allB_of fun b hb => .inl (by have := w3n b hb; omega)
    simp -implicitDefEqProofs (disch := (first | omega | (simp -implicitDefEqProofs only [szs, ne_eq] <;> omega) | fail)) only [go_sem, seval, ↓reduceIte, reduceCtorEq, undefV, t0, t1, t6, t7, t8, t9, nX, bX, hRn, ↓hsl, c1x, c2, c3, c4x, c6, hRd, hRb, hWl, hz1, hi0, hz2, hm0, b3, appendV_of ap_23, appendV_of ap_36, ap1, ap2, ap3, ↓o2c, ↓o3o, ↓o3c, b13]
    have hl3 := Heap.lt_of_get b13
    obtain ⟨g4, e4⟩ : ∃ g4, g4 = h3.set (bl i) (O.cells (cb.set (p * 4 + 2) v3) 109) := ⟨_, rfl⟩
    have n4 : g4.n = h3.n := by rw [e4]; simp
    have k4 : ∀ k, k ≠ bl i → g4.get k = h3.get k := fun k hk => by rw [e4]; exact w_set_ne hl3 hk _
    have b4' : g4.get (bl i) = some (O.cells (cb.set (p * 4 + 2) v3) 109) := by rw [e4]; exact w_set_eq hl3 rfl _
    rw [← e4, ← n4]
    clear e4
    have hput : x.put l = { x with ring := x.ring ++ [l] } := by unfold Pt.put; rw [if_neg h88]
    have kI : ∀ k, I' k → g4.get k = gx'.get k := fun k hk => by
     rw [k4 k fun e => ?_, kk k (by have := hIl k hk; omega)]
     obtain ⟨c', e', h1', h2', _⟩ := hrx.imm k hk
     rw [e, b1x] at h1'; cases h1'; exact h2' rfl
    have kF : ∀ k c e, gx'.n ≤ k → h3.get k = some (.cells c e) → g4.get k = some (.cells c e) := fun k c e h1 h2 => by
     rw [k4 k (by have := Heap.lt_of_get b1x; omega)]; exact h2
    have l2 : LR g4 (fun k => gx'.n ≤ k ∧ ∃ c, g4.get k = some (.cells c 5)) v2 l := by
     have h23 : ∀ k c, h2.get k = some (.cells c 5) → h3.get k = some (.cells c 5) := fun k c h1 => by
      have hlt := Heap.lt_of_get h1
      rw [k3' k (by simp; omega) (fun hw => ?_), kp k hlt]; exact h1
      obtain ⟨c', e'⟩ := ty3 k hw
      rw [kp k hlt, h1] at e'; cases e'
     refine (o2.lrf.same (h' := g4) fun k h1 _ => ?_).mono fun k _ h1 => ?_
     ·obtain ⟨h1, c, h4⟩ := h1
      rw [kF k c 5 (by omega) (h23 k c h4)]; exact h4.symm
     ·obtain ⟨h1, c, h4⟩ := h1
      exact ⟨by omega, c, kF k c 5 (by omega) (h23 k c h4)⟩
    have l3 : LR g4 (fun k => gx'.n ≤ k ∧ ∃ c, g4.get k = some (.cells c 36)) v3 (sl ++ [v2]) := by
     refine (o3.lrf.same (h' := g4) fun k h1 _ => ?_).mono fun k _ h1 => ?_
     ·obtain ⟨h1, c, h4⟩ := h1
      rw [kF k c 36 (by omega) h4]; exact h4.symm
     ·obtain ⟨h1, c, h4⟩ := h1
      exact ⟨by omega, c, kF k c 36 (by omega) h4⟩
    have hr4 : RPorts g4 (fun k => I' k ∨ (gx'.n ≤ k ∧ ∃ c e, g4.get k = some (.cells c e) ∧ (e = 36 ∨ e = 5))) rd bl qs (updA (comeS S i l (openP S i p)) i p (some (x.put l))) := by
     refine (hrx.old kk).put hq hpq b13 b4' (by rw [Blk.size_set]) (by rw [Blk.ro_set]; exact b3) ?_ (fun j hj => by rw [Blk.get_set, if_neg (by omega)]) (fun k _ hk => k4 k hk) (fun _ h => .inl h) fun k h => h.imp id fun h1 => ?_
     ·rw [hput]
      refine ⟨?_, ?_, ?_, ?_⟩
      ·rw [Blk.get_set, if_neg (by omega)]; exact p0
      ·rw [Blk.get_set, if_neg (by omega)]; exact (LRs.same p1x fun k h _ => kI k h).mono fun _ _ h => .inl h
      ·rw [Blk.get_set, if_pos rfl]
       refine .inr ⟨sl ++ [v2], l3.mono fun k _ h1 => .inr ⟨h1.1, by obtain ⟨_, c, h2⟩ := h1; exact ⟨c, 36, h2, .inl rfl⟩⟩, ?_, by simp [f3], fun j v e => ?_⟩
       ·rcases o3 with ⟨e, _⟩ | ⟨_, _, _, _, rfl, _⟩
        ·simp at e
        ·exact Nat.le_refl _
       ·by_cases hj : j < sl.length
        ·rw [List.getElem?_append_left hj] at e
         have := f5 j v e
         rw [getD_app_lt (by omega)]
         exact (this.same fun k h _ => kI k h).mono fun _ _ h => .inl h
        ·rw [List.getElem?_append_right (by omega)] at e
         have hj0 : j - sl.length = 0 := by
          have := (List.getElem?_eq_some_iff.1 e).1
          simp at this; omega
         rw [hj0] at e
         have hj1 : j = x.ring.length := by omega
         rw [hj1, getD_app_eq]
         cases e
         exact l2.mono fun k _ h1 => .inr ⟨h1.1, by obtain ⟨_, c, h2⟩ := h1; exact ⟨c, 5, h2, .inr rfl⟩⟩
      ·rw [Blk.get_set, if_neg (by omega)]; exact p3
     ·obtain ⟨_, c, e, h2, h3⟩ := h1
      exact ⟨c, e, h2, by rcases h3 with rfl | rfl <;> decide, by rcases h3 with rfl | rfl <;> decide⟩
    have hc4 : RC h I rd bl qs (updA (comeS S i l (openP S i p)) i p (some (x.put l))) w (comeP S i l (openP S i p)) g4 := by
     refine ⟨by omega, fun k h1 h2 => by rw [k4 k (h2 i hi), kk k (by omega)]; exact hcx.k k h1 h2, ⟨_, hr4, fun k hk => ?_⟩, hcx.o.keep fun b' c' h1 _ => ?_⟩
     ·rcases hk with hk | hk
      ·refine (hI' k hk).imp id fun h1 => ?_
       obtain ⟨q1, c, e, q2, q3⟩ := h1
       exact ⟨q1, c, e, by rw [kI k hk, kX k (hIl k hk)]; exact q2, q3⟩
      ·exact .inr ⟨by omega, hk.2⟩
     ·rw [k4 b' (fun e => by rw [e, b1x] at h1; cases h1), kk b' (Heap.lt_of_get h1)]; exact h1
    obtain ⟨v5, h5, r5, w5, ap5, w5n, hc5⟩ := hc4.app hIh (Nat.le_trans (comeP_le2 _ _ _ _) (by have := openP_len S i p; omega)) p false
    have hr5 : allB (fun b => h.n ≤ b ∨ R b) r5 := allB_of fun b _ => .inr (hR b)
    have hw5 : allB (fun b => h.n ≤ b ∨ W b) w5 := allB_of fun b hb => .inl (w5n b hb)
    rw [appendV_of ap_37, ap5]
    refine ⟨?_, ⟨fun b _ _ => .inr (hR b), fun b _ h1 => .inl (by have := w1n b h1; omega), fun b _ _ => .inr (hR b), fun b _ h1 => .inl (by have := w2n b h1; omega), fun b _ _ => .inr (hR b), fun b _ h1 => .inl (by have := w3n b h1; omega)⟩, hr5, hw5, k - 1, by omega, p + 1, v5, by omega, rfl, by simp, ?_⟩
    ·rw [nX] at w1n w3n n1
     simp only [List.not_mem_nil, or_false, false_or, and_false, false_implies, implies_true, not_false_eq_true, List.mem_cons, and_true, true_and]
     and_intros
     all_goals first
      | (intros; omega)
      | (rintro b' ⟨h1, h2⟩; first | (have := w1n b' h2; omega) | (have := w2n b' h2; omega) | (have := w3n b' h2; omega))
      | (rintro b' (⟨h1, h2⟩ | h2) <;> first | (have := w1n b' h2; omega) | (have := w2n b' h2; omega) | (have := w3n b' h2; omega) | omega)
    rw [openP_some hS, comeS_yes hS hmt, comeP_yes hS hmt, decide_eq_false h88]
    exact hc5
end Go.Proofs.Ytmimialblhlklaa
