/- Copy of the program. -/
import Derived.Test.YtmimialblhlklaaRH
set_option linter.unusedVariables false
set_option maxRecDepth 100000
namespace Go.Proofs.Ytmimialblhlklaa
open Go Go.Vm
variable {h : Heap} {R W I : Set'}
def ir25_l0_x : LC := (.block 1 (.seq (.ops [⟨some 24, Op.entry (Operand.tmp 21), none⟩,
  ⟨some 25, Op.extract (Operand.tmp 24) 0, none⟩,
  ⟨some 26, Op.extract (Operand.tmp 24) 1, none⟩,
  ⟨some 4, Op.alloc 75, none⟩,
  ⟨none, Op.store 75 (Operand.tmp 4) (Operand.tmp 25), none⟩,
  ⟨some 5, Op.assign (Operand.tmp 26), none⟩])
 (.seq (.ops [⟨some 27, Op.move (Operand.tmp 5), none⟩,
  ⟨some 28, Op.nilCheck (Operand.tmp 27), none⟩,
  ⟨some 29, Op.load 82 (Operand.tmp 28), none⟩,
  ⟨some 6, Op.alloc 82, none⟩,
  ⟨none, Op.store 82 (Operand.tmp 6) (Operand.tmp 29), none⟩])
 (.draw [⟨some 30, Op.move (Operand.tmp 3), none⟩,
  ⟨some 31, Op.nilCheck (Operand.tmp 30), none⟩,
  ⟨some 32, Op.fieldAddr 68 (Operand.tmp 31) 1, none⟩,
  ⟨some 33, Op.load 66 (Operand.tmp 32), none⟩,
  ⟨some 34, Op.load 75 (Operand.tmp 4), none⟩,
  ⟨none, Op.mapUpdate 66 (Operand.tmp 33) (Operand.tmp 34) (Operand.tmp 6), none⟩] []))))
def ir25_l0_c : LC := (.seq (.ops [⟨some 22, Op.next (Operand.tmp 21) false, none⟩,
  ⟨some 23, Op.extract (Operand.tmp 22) 0, none⟩])
 (.seq (.cond (Operand.tmp 23)
 .skip
 (.exit 0))
 ir25_l0_x))
theorem ir25_l0_c_eq : ir25_l0 = ir25_l0_c := rfl
structure CopyQ (h g : Heap) (I : Set') (T T2 : PT) (l : Ents) (mq : Nat) : Prop where
 m : ∃ es ck, g.get mq = some (.map es ck) ∧ PMap es ck ∧ ∀ k : Int × Int, getP es k = (lookT T2 k.1 k.2).map fun x => V.ptr (some (x.1, 0))
 k : ∀ a n, (T2 a n).isSome = true ↔ ((a : Int), (n : Int)) ∈ keysE l
 p : ∀ a n b x, T2 a n = some (b, x) → h.n + 3 ≤ b ∧ PortAt g I b x ∧ ∃ b0, T a n = some (b0, x)
 inj : ∀ a n b x a' n' x', T2 a n = some (b, x) → T2 a' n' = some (b, x') → a = a' ∧ n = n'
set_option maxHeartbeats 4000000 in
theorem copy25 {pp mp : Nat} {qs : List Nat} {T : PT} (hp : PortsAt h I pp mp qs T) (hR : ∀ b, R b) : SF ⟨Try.prog, true⟩ 25 [.ptr (some (pp, 0))] h R W fun v g => v = .ptr (some (h.n + 1, 0)) ∧ h.n + 3 ≤ g.n ∧ (∀ k, k < h.n → g.get k = h.get k) ∧ ∃ T2, PortsAt g (fun k => I k ∨ k = h.n + 1) (h.n + 1) h.n qs T2 ∧ absT T2 = absT T ∧ ∀ k, MutB h.n T2 k → h.n ≤ k := by
 obtain ⟨c, c1, c2, c3, c4⟩ := hp.c
 obtain ⟨es, ck, m1, m2, m3⟩ := hp.m
 have hpl := Heap.lt_of_get c1
 have hml := Heap.lt_of_get m1
 have hRp := hR pp; have hRm := hR mp
 have q1 := c4.one
 have qc := c4.cells
 have hIl : ∀ k, I k → k < h.n := fun k hk => by obtain ⟨c, e, h1, _⟩ := hp.imm k hk; exact Heap.lt_of_get h1
 refine SF.go hm Try.func25 ir25_eq ?_
 simp -implicitDefEqProofs (disch := (first | omega | (simp -implicitDefEqProofs only [szs, ne_eq] <;> omega) | fail)) only [go_sem, seval, ↓reduceIte, reduceCtorEq, ir25]
 refine GCall.of (there_ok hp (.inr (hR _))).any ?_
 rintro r h1 ⟨rfl, rfl⟩
 obtain ⟨h2, e2, n2, b2, r2, k2⟩ : ∃ h2, ((h1.push (.map [] 0)).push (.cells (Blk.of [c.get 0, .map (some h1.n)]) 68)) = h2 ∧ h2.n = h1.n + 2 ∧ h2.get (h1.n + 1) = some (.cells (Blk.of [c.get 0, .map (some h1.n)]) 68) ∧ h2.get h1.n = some (.map [] 0) ∧ ∀ b, b < h1.n → h2.get b = h1.get b :=
  ⟨_, rfl, by simp, w_push_eq (by simp) _, by rw [w_push_ne (by simp), w_push_eq rfl], fun b hb => by rw [w_push_ne (by simp; omega), w_push_ne (by omega)]⟩
 have c1' := (k2 pp (by omega)).trans c1
 have m1' := (k2 mp (by omega)).trans m1
 simp -implicitDefEqProofs (disch := (first | omega | (simp -implicitDefEqProofs only [szs, ne_eq] <;> omega) | fail)) only [go_sem, seval, ↓reduceIte, reduceCtorEq, c1, c2, c3, hRp, ↓qc, e2, c1', rangeV, m1', Try.underlying66]
 refine ⟨.inr hRm, ?_⟩
 rw [ir25_l0_c_eq]
 refine GLoop.inv hm (fun k f g => f.mks = [] ∧ f.tm.n = 36 ∧ f.tm.get 3 = some (.ptr (some (h1.n + 1, 0))) ∧ f.tm.get 21 = some (.ptr (some (h2.n, 0))) ∧ h1.n + 3 ≤ g.n ∧ (∀ b, b < h1.n → g.get b = h1.get b) ∧ g.get (h1.n + 1) = some (.cells (Blk.of [c.get 0, .map (some h1.n)]) 68) ∧
  ∃ l seen T2, Seen es seen l ∧ l.length + k = es.length ∧ g.get h2.n = some (.iter (some mp) ck seen ck) ∧ CopyQ h1 g I T T2 l h1.n) es.length ?_ ?_
 ·refine ⟨rfl, rfl, by simp -implicitDefEqProofs (disch := (first | omega | (simp -implicitDefEqProofs only [szs, ne_eq] <;> omega) | fail)) only [go_sem, seval, ↓reduceIte, reduceCtorEq], by simp -implicitDefEqProofs (disch := (first | omega | (simp -implicitDefEqProofs only [szs, ne_eq] <;> omega) | fail)) only [go_sem, seval, ↓reduceIte, reduceCtorEq], by simp; omega, fun b hb => by rw [w_push_ne (by omega), k2 b hb], by rw [w_push_ne (by omega)]; exact b2, [], [], fun _ _ => none, Seen.nil es, by simp, w_push_eq rfl _, ⟨[], 0, by rw [w_push_ne (by omega)]; exact r2, PMap.nil, fun k => ?_⟩, fun a n => ?_, fun a n b x e => (by cases e), fun a n b x a' n' x' e => (by cases e)⟩
  ·unfold lookT; split <;> rfl
  ·simp [keysE]
 rintro k ⟨⟨m, tr⟩, mks⟩ g ⟨hmk, hn, t3, t21, hgn, hgo, hgC, l, seen, T2, hs, hlk, hit, hcq⟩
 simp only [Tm.get_mk] at hmk hn t3 t21
 subst hmk hn
 have hgr : g.get mp = some (.map es ck) := by rw [hgo mp hml]; exact m1
 simp -implicitDefEqProofs (disch := (first | omega | (simp -implicitDefEqProofs only [szs, ne_eq] <;> omega) | fail)) only [go_sem, seval, ↓reduceIte, ir25_l0_c, t21, SNext, hit, hgr]
 refine ⟨.inr (hR _), .inl (by omega), .inr hRm, ?_, ?_, ?_⟩
 ·cases es with
  | nil => exact .inr (.inl rfl)
  | cons e es => exact .inr (.inr ⟨e, by simp, m2.ok.lt e (by simp)⟩)
 ·intro hal
  have hperm := hs.last m2.ok fun e he => hal e he (m2.ok.lt e he)
  simp -implicitDefEqProofs (disch := (first | omega | (simp -implicitDefEqProofs only [szs, ne_eq] <;> omega) | fail)) only [go_sem, seval, t3]
  have hgk : ∀ a n, (T a n).isSome = true → (T2 a n).isSome = true := fun a n h => by
   rw [hcq.k]
   have hk : ((a : Int), (n : Int)) ∈ keysE es := by
    rw [mem_keysE m2, m3, Option.isSome_map]
    unfold lookT
    rw [if_pos ⟨by omega, by omega⟩]
    simpa using h
   obtain ⟨e, he, hk⟩ := List.mem_map.1 hk
   exact List.mem_map.2 ⟨e, hperm.mem_iff.2 he, hk⟩
  refine ⟨by omega, hgo, T2, ⟨⟨_, hgC, rfl, rfl, (c4.old hgo).mono fun _ _ h => .inl h⟩, .inr rfl, hcq.m, fun a n b x e => (hcq.p a n b x e).2.1.mono fun _ h => .inl h, hcq.inj, fun a n y e => ?_, hp.qs, fun k hk => ?_⟩, ?_, fun k hk => ?_⟩
  ·obtain ⟨_, _, b0, e0⟩ := hcq.p a n y.1 y.2 e
   exact hp.dom _ _ _ e0
  ·rcases hk with hk | rfl
   ·obtain ⟨c', e', i1, i2⟩ := hp.imm k hk
    exact ⟨c', e', by rw [hgo k (Heap.lt_of_get i1)]; exact i1, i2⟩
   ·exact ⟨_, 68, hgC, by decide, by decide⟩
  ·funext a n
   unfold absT
   cases e2 : T2 a n with
   | some y =>
    obtain ⟨_, _, b0, e0⟩ := hcq.p a n y.1 y.2 e2
    rw [e0]; rfl
   | none =>
    cases e1 : T a n with
    | none => rfl
    | some y =>
     have := hgk a n (by rw [e1]; rfl)
     rw [e2] at this; cases this
  ·rcases hk with rfl | ⟨a, n, x, e⟩
   ·exact Nat.le_refl _
   ·have := (hcq.p _ _ _ _ e).1; omega
 ·intro e he hns
  have hs' := hs.step he hns
  have hle := hs'.length
  rw [List.length_append, List.length_singleton] at hle
  obtain ⟨gX, eX, nX, bX, kX⟩ : ∃ gX, g.set h2.n (.iter (some mp) ck (seen ++ [e.2.2]) ck) = gX ∧ gX.n = g.n ∧ gX.get h2.n = some (.iter (some mp) ck (seen ++ [e.2.2]) ck) ∧ ∀ b, b ≠ h2.n → gX.get b = g.get b := ⟨_, rfl, by simp, w_set_eq (by omega) rfl _, fun b hb => w_set_ne (by omega) hb _⟩
  have hE := entry_at (g := gX) (b := h2.n) bX (by rw [kX _ (by omega)]; exact hgr) m2.ok he
  obtain ⟨a, n, b, x, ha, hn, hk, hT, hv⟩ := hp.ent m2 m3 he
  have hkp : e.1 = kp ((a : Int), (n : Int)) := by
   obtain ⟨k', hk'⟩ := m2.ints e he
   have : keyP e.1 = k' := by rw [hk']; rfl
   rw [hk', ← this, hk]
  obtain ⟨cb, f, d1, d2, d3, d4, d5, d6, d7, d8, d9, d10⟩ := (hp.pt _ _ _ _ hT).c
  have hbl := Heap.lt_of_get d1
  have hRb := hR b
  obtain ⟨h3, e3, n3, b3, k3⟩ : ∃ h3, (gX.push (O.cells (Blk.of [V.int IntKind.i64 0, V.int IntKind.i64 0]) 75)).set gX.n (O.cells (((Blk.of [V.int IntKind.i64 0, V.int IntKind.i64 0]).set 0 (V.int IntKind.i64 (a : Int))).set 1 (V.int IntKind.i64 (n : Int))) 75) = h3 ∧ h3.n = gX.n + 1 ∧
   (∃ d, h3.get gX.n = some (.cells d 75) ∧ d.size = 2 ∧ d.get 0 = .int .i64 (a : Int) ∧ d.get 1 = .int .i64 (n : Int)) ∧ ∀ b, b < gX.n → h3.get b = gX.get b := ⟨_, rfl, by simp, ⟨_, w_set_eq (by simp) rfl _, rfl, by simp -implicitDefEqProofs (disch := (first | omega | (simp -implicitDefEqProofs only [szs, ne_eq] <;> omega) | fail)) only [go_sem, seval], by simp -implicitDefEqProofs (disch := (first | omega | (simp -implicitDefEqProofs only [szs, ne_eq] <;> omega) | fail)) only [go_sem, seval]⟩, fun b hb => by rw [w_set_ne (by simp) (by omega), w_push_ne (by omega)]⟩
  obtain ⟨d, b3, f1, f2, f3⟩ := b3
  have d1' : h3.get b = some (.cells cb 82) := by rw [k3 b (by omega), kX b (by omega), hgo b hbl]; exact d1
  have w0 := LRs.one d4
  have w1 : ∀ j, j < 8 → (cb.get (1 + j)).one = true := fun j hj => (d10 j hj).elim fun l h => h.one
  have wA := w1 0 (by decide); have wB := w1 1 (by decide); have wC := w1 2 (by decide); have wD := w1 3 (by decide); have wE := w1 4 (by decide); have wF := w1 5 (by decide); have wG := w1 6 (by decide); have wH := w1 7 (by decide)
  simp only [Nat.reduceAdd, Nat.add_zero] at wA wB wC wD wE wF wG wH
  rw [hkp, hv, kp] at hE
  have hRn := hR gX.n
  have hWn : h1.n ≤ gX.n ∨ W gX.n := .inl (by omega)
  have hC3 : h3.get (h1.n + 1) = some (.cells (Blk.of [c.get 0, .map (some h1.n)]) 68) := by rw [k3 _ (by omega), kX _ (by omega)]; exact hgC
  obtain ⟨c4', eC, s4, r4, g4⟩ : ∃ c4', c4' = (((((((((((((Blk.of [V.slice none 0 0 true, V.slice none 0 0 true, V.slice none 0 0 true, V.slice none 0 0 true, V.slice none 0 0 true, V.slice none 0 0 true, V.slice none 0 0 true, V.slice none 0 0 true, V.slice none 0 0 true, V.int IntKind.i64 0, V.int IntKind.i64 0, V.int IntKind.i64 0]).set 0 (cb.get 0)).set 1 (cb.get 1)).set 2 (cb.get 2)).set 3 (cb.get 3)).set 4 (cb.get 4)).set 5 (cb.get 5)).set 6 (cb.get 6)).set 7 (cb.get 7)).set 8 (cb.get 8)).set 9 (V.int IntKind.i64 (f : Int))).set 10 (V.int IntKind.i64 (x.ring.length : Int))).set 11 (V.int IntKind.i64 x.lost)) ∧ c4'.size = 12 ∧ c4'.ro = false ∧ ∀ j, j < 12 → c4'.get j = cb.get j := ⟨_, rfl, rfl, rfl, fun j hj => by
   have : j = 0 ∨ j = 1 ∨ j = 2 ∨ j = 3 ∨ j = 4 ∨ j = 5 ∨ j = 6 ∨ j = 7 ∨ j = 8 ∨ j = 9 ∨ j = 10 ∨ j = 11 := by omega
   rcases this with rfl | rfl | rfl | rfl | rfl | rfl | rfl | rfl | rfl | rfl | rfl | rfl <;> simp [Blk.get_set, d6, d7, d8]⟩
  obtain ⟨h4, e4, n4, b4, k4⟩ : ∃ h4, (h3.push (O.cells (Blk.of [V.slice none 0 0 true, V.slice none 0 0 true, V.slice none 0 0 true, V.slice none 0 0 true, V.slice none 0 0 true, V.slice none 0 0 true, V.slice none 0 0 true, V.slice none 0 0 true, V.slice none 0 0 true, V.int IntKind.i64 0, V.int IntKind.i64 0, V.int IntKind.i64 0]) 82)).set h3.n (O.cells c4' 82) = h4 ∧ h4.n = h3.n + 1 ∧ h4.get h3.n = some (.cells c4' 82) ∧ ∀ b, b < h3.n → h4.get b = h3.get b := ⟨_, rfl, by simp, w_set_eq (by simp) rfl _, fun b hb => by rw [w_set_ne (by simp) (by omega), w_push_ne (by omega)]⟩
  obtain ⟨⟨es2, ck2, hg2, hp2, hgp⟩, hck, hcp, hci⟩ := hcq
  have hm4 : h4.get h1.n = some (.map es2 ck2) := by rw [k4 _ (by omega), k3 _ (by omega), kX _ (by omega)]; exact hg2
  obtain ⟨es', ck', hu, v1, v2, v3⟩ := upd_pair (P := Try.prog) (t := 66) Try.underlying66 pk_75 hm4 hp2 ((a : Int), (n : Int)) (.ptr (some (h3.n, 0)))
  have hu' : updV Try.prog 66 h4 (.map (some h1.n)) (.agg [.int .i64 (a : Int), .int .i64 (n : Int)]) (.ptr (some (h3.n, 0))) = some (h4.set h1.n (.map es' ck'), [h1.n]) := hu
  have hC4 := (k4 _ (by omega)).trans hC3
  have b34 := (k4 _ (by omega)).trans b3
  have hRC := hR (h1.n + 1)
  have hW3 : h1.n ≤ h3.n ∨ W h3.n := .inl (by omega)
  simp -implicitDefEqProofs (disch := (first | omega | (simp -implicitDefEqProofs only [szs, ne_eq] <;> omega) | fail)) only [go_sem, seval, ↓reduceIte, ir25_l0_x, eX, hE, t3, t21, e3, f1, f2, f3, hRn, hWn, hRb, d1', d2, d6, d7, d8, ↓w0, ↓wA, ↓wB, ↓wC, ↓wD, ↓wE, ↓wF, ↓wG, ↓wH, ← eC, e4, hC4, b34, hRC, hW3, hu']
  obtain ⟨h5, e5⟩ : ∃ h5, h5 = h4.set h1.n (.map es' ck') := ⟨_, rfl⟩
  rw [← e5]
  have n5 : h5.n = h4.n := by rw [e5]; simp
  have k5 : ∀ k, k ≠ h1.n → h5.get k = h4.get k := fun k hk => by rw [e5]; exact w_set_ne (by omega) hk _
  have b5 : h5.get h1.n = some (.map es' ck') := by rw [e5]; exact w_set_eq (by omega) rfl _
  clear e5
  have kg : ∀ k, k < g.n → k ≠ h1.n → k ≠ h2.n → h5.get k = g.get k := fun k q1 q2 q3 => by rw [k5 k q2, k4 k (by omega), k3 k (by omega), kX k q3]
  have ko : ∀ k, k < h1.n → h5.get k = h1.get k := fun k hk => by rw [kg k (by omega) (by omega) (by omega)]; exact hgo k hk
  have hup : ∀ a' n', updT T2 a n (some (h3.n, x)) a' n' = if a' = a ∧ n' = n then some (h3.n, x) else T2 a' n' := fun _ _ => rfl
  have hb4 : h5.get h3.n = some (.cells c4' 82) := by rw [k5 _ (by omega)]; exact b4
  have hlen := (hp.pt _ _ _ _ hT).len
  have hkI : ∀ k, I k → k < h1.n → h5.get k = h1.get k := fun k _ hk => ko k hk
  have hnew : PortAt h5 I h3.n x := by
   refine ⟨⟨c4', f, hb4, s4, r4, ?_, d5, ?_, ?_, ?_, fun i hi => ?_, fun j hj => ?_⟩, hlen⟩
   ·rw [g4 0 (by omega)]; exact LRs.same d4 hkI
   ·rw [g4 9 (by omega)]; exact d6
   ·rw [g4 10 (by omega)]; exact d7
   ·rw [g4 11 (by omega)]; exact d8
   ·rw [g4 _ (by omega)]; exact (d9 i hi).same hkI
   ·rw [g4 _ (by omega)]; exact (d10 j hj).imp fun l hl => hl.same hkI
  have hplt : ∀ a n b x, T2 a n = some (b, x) → b < g.n := fun a n b x e => (hcp a n b x e).2.1.lt
  refine ⟨⟨.inr (hR _), .inr hRm⟩, k - 1, by omega, by omega, ko, l ++ [e], _, updT T2 a n (some (h3.n, x)), hs', by simp; omega, by rw [k4 _ (by omega), k3 _ (by omega)]; exact bX, ⟨es', ck', b5, v1, fun k => ?_⟩, fun a' n' => ?_, fun a' n' b' x' e' => ?_, fun a1 n1 bb x1 a2 n2 x2 e1 e2 => ?_⟩
  ·rw [v2, hgp]
   unfold lookT
   by_cases hc : 0 ≤ k.1 ∧ 0 ≤ k.2
   ·rw [if_pos hc, if_pos hc, hup]
    by_cases hc2 : k.1.toNat = a ∧ k.2.toNat = n
    ·rw [if_pos hc2, if_pos (Prod.ext (by simp only []; omega) (by simp only []; omega))]; rfl
    ·rw [if_neg hc2, if_neg fun h0 => hc2 (by rw [h0]; exact ⟨rfl, rfl⟩)]
   ·rw [if_neg hc, if_neg hc, if_neg fun h0 => hc (by rw [h0]; exact ⟨by simp only []; omega, by simp only []; omega⟩)]
  ·rw [hup]
   unfold keysE
   rw [List.map_append, List.mem_append]
   by_cases hc : a' = a ∧ n' = n
   ·rw [if_pos hc, hc.1, hc.2]
    exact ⟨fun _ => .inr (by simp [hk]), fun _ => rfl⟩
   ·rw [if_neg hc, hck]
    refine ⟨.inl, fun h => h.elim id fun h => absurd ?_ hc⟩
    simp only [List.map_cons, List.map_nil, List.mem_singleton] at h
    rw [hk] at h
    simp only [Prod.mk.injEq] at h
    omega
  ·rw [hup] at e'
   by_cases hc : a' = a ∧ n' = n
   ·rw [if_pos hc] at e'
    cases e'
    rw [hc.1, hc.2]
    exact ⟨by omega, hnew, b, hT⟩
   ·rw [if_neg hc] at e'
    obtain ⟨q1, q2, q3⟩ := hcp a' n' b' x' e'
    have := hplt _ _ _ _ e'
    exact ⟨q1, q2.same (kg _ this (by omega) (by omega)) fun k hk _ => by have := hIl k hk; rw [ko k this, hgo k this], q3⟩
  ·rw [hup] at e1 e2
   by_cases hc1 : a1 = a ∧ n1 = n
   ·rw [if_pos hc1] at e1
    by_cases hc2 : a2 = a ∧ n2 = n
    ·exact ⟨hc1.1.trans hc2.1.symm, hc1.2.trans hc2.2.symm⟩
    ·rw [if_neg hc2] at e2
     cases e1
     have := hplt _ _ _ _ e2; omega
   ·rw [if_neg hc1] at e1
    by_cases hc2 : a2 = a ∧ n2 = n
    ·rw [if_pos hc2] at e2
     cases e2
     have := hplt _ _ _ _ e1; omega
    ·rw [if_neg hc2] at e2
     exact hci _ _ _ _ _ _ _ e1 e2
end Go.Proofs.Ytmimialblhlklaa
