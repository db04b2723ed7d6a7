/- Same of the program: maps.EqualFunc. -/
import Derived.Test.YtmimialblhlklaaN5
set_option linter.unusedVariables false
set_option maxRecDepth 100000
namespace Go.Proofs.Ytmimialblhlklaa
open Go Go.Vm
variable {h : Heap} {R W I : Set'}
theorem look_pair_ok {P : Program} {t kt et : TypeId} {z : V} (ht : P.underlying t = some (.map kt et)) (hu : PK P kt) (hz : zeroV P et = some z) {h : Heap} {r : Nat} {es : Ents} {ck : Nat} (hr : h.get r = some (.map es ck)) (hm : PMap es ck) (k : Int × Int) :
  lookV P t h (.map (some r)) (kp k) true = some (.tuple [(getP es k).getD z, .bool (getP es k).isSome], [r]) := by
 have hk : keyOk P 10 kt (kp k) = true := hu.ok k
 obtain ⟨dk, hd⟩ := hu.un
 simp only [lookV, ht, hd, hk, hz, hr]
 cases hg : getP es k with
 | none => rw [findP_none hu hm.ints hg]; rfl
 | some v =>
  obtain ⟨j, e, _, _, _, hf⟩ := findP_some (i := 0) hu hm.ints hg
  rw [hf]; rfl
theorem nodup_len {α : Type} [DecidableEq α] : ∀ {l m : List α}, l.Nodup → (∀ a ∈ l, a ∈ m) → l.length ≤ m.length
 | [], m, _, _ => Nat.zero_le _
 | a :: l, m, h, hs => by
  rw [List.nodup_cons] at h
  have ha := hs a (by simp)
  have := nodup_len (l := l) (m := m.erase a) h.2 fun b hb => (List.mem_erase_of_ne (fun e => by subst e; exact h.1 hb)).2 (hs b (by simp [hb]))
  rw [List.length_erase_of_mem ha] at this
  have := List.length_pos_of_mem ha
  simp; omega
theorem nodup_all {α : Type} [DecidableEq α] {l m : List α} (hl : l.Nodup) (hs : ∀ a ∈ l, a ∈ m) (hlen : m.length ≤ l.length) : ∀ a ∈ m, a ∈ l := fun a ha => by
 by_cases h : a ∈ l
 ·exact h
 ·have := nodup_len (l := a :: l) (m := m) (List.nodup_cons.2 ⟨h, hl⟩) fun b hb => by
   rcases List.mem_cons.1 hb with rfl | hb
   ·exact ha
   ·exact hs b hb
  simp at this; omega
theorem sameP_some (x y : Pt) : sameP (some x) (some y) = portEq x y := by
 rfl
theorem sameP_is {x y : Option Pt} (h : sameP x y = true) : x.isSome = y.isSome := by
 unfold sameP at h
 simp only [Bool.and_eq_true, beq_iff_eq] at h
 exact h.1.1.1
def keysE (es : Ents) : List (Int × Int) := es.map fun e => keyP e.1
theorem mem_keysE {es : Ents} {ck : Nat} (hm : PMap es ck) {k : Int × Int} : k ∈ keysE es ↔ (getP es k).isSome = true := by
 constructor
 ·intro h
  obtain ⟨e, he, rfl⟩ := List.mem_map.1 h
  rw [getP_of_mem hm.keys he]; rfl
 ·intro h
  obtain ⟨v, hv⟩ := Option.isSome_iff_exists.1 h
  obtain ⟨e, he, hk⟩ := getP_mem hv
  exact List.mem_map.2 ⟨e, he, hk⟩
def goodK (T T' : PT) (k : Int × Int) : Prop := ∃ b x b' y, lookT T k.1 k.2 = some (b, x) ∧ lookT T' k.1 k.2 = some (b', y) ∧ portEq x y = true
theorem same_iff {T T' : PT} {es es' : Ents} {ck ck' : Nat} (hm : PMap es ck) (hm' : PMap es' ck') (hg : ∀ k : Int × Int, getP es k = (lookT T k.1 k.2).map fun x => V.ptr (some (x.1, 0))) (hg' : ∀ k : Int × Int, getP es' k = (lookT T' k.1 k.2).map fun x => V.ptr (some (x.1, 0))) :
  (∀ a n, sameP (absT T a n) (absT T' a n) = true) ↔ es.length = es'.length ∧ ∀ k ∈ keysE es, goodK T T' k := by
 have hab : ∀ (T : PT) (a n : Nat), absT T a n = (lookT T (a : Int) (n : Int)).map Prod.snd := fun T a n => by
  unfold lookT absT
  rw [if_pos ⟨by omega, by omega⟩, Int.toNat_natCast, Int.toNat_natCast]
 have hkl : ∀ es : Ents, (keysE es).length = es.length := fun es => List.length_map ..
 constructor
 ·intro h
  have hgood : ∀ k ∈ keysE es, goodK T T' k := fun k hk => by
   have h1 := (mem_keysE hm).1 hk
   rw [hg, Option.isSome_map] at h1
   obtain ⟨⟨b, x⟩, e1⟩ := Option.isSome_iff_exists.1 h1
   obtain ⟨i1, i2, hT⟩ := lookT_some e1
   have h2 := h k.1.toNat k.2.toNat
   rw [hab, hab, show ((k.1.toNat : Nat) : Int) = k.1 by omega, show ((k.2.toNat : Nat) : Int) = k.2 by omega, e1] at h2
   cases e2 : lookT T' k.1 k.2 with
   | none => rw [e2] at h2; cases h2
   | some y =>
    rw [e2] at h2
    exact ⟨b, x, y.1, y.2, e1, e2, by rw [← sameP_some]; exact h2⟩
  refine ⟨Nat.le_antisymm ?_ ?_, hgood⟩
  ·rw [← hkl es, ← hkl es']
   refine nodup_len hm.keys fun k hk => ?_
   obtain ⟨b, x, b', y, _, e2, _⟩ := hgood k hk
   rw [mem_keysE hm', hg', e2]; rfl
  ·rw [← hkl es, ← hkl es']
   refine nodup_len hm'.keys fun k hk => ?_
   rw [mem_keysE hm, hg, Option.isSome_map]
   have h1 := (mem_keysE hm').1 hk
   rw [hg', Option.isSome_map] at h1
   obtain ⟨⟨b, x⟩, e1⟩ := Option.isSome_iff_exists.1 h1
   obtain ⟨i1, i2, hT⟩ := lookT_some e1
   have h2 := sameP_is (h k.1.toNat k.2.toNat)
   rw [hab, hab, show ((k.1.toNat : Nat) : Int) = k.1 by omega, show ((k.2.toNat : Nat) : Int) = k.2 by omega, e1] at h2
   simpa using h2
 ·rintro ⟨hlen, hgood⟩ a n
  rw [hab, hab]
  cases e1 : lookT T (a : Int) (n : Int) with
  | some x =>
   have hk : ((a : Int), (n : Int)) ∈ keysE es := by rw [mem_keysE hm, hg]; simp [e1]
   obtain ⟨b, x2, b', y, q1, q2, q3⟩ := hgood _ hk
   simp only at q1 q2
   rw [e1] at q1
   cases q1
   rw [q2]
   simp only [Option.map_some]
   rw [sameP_some]; exact q3
  | none =>
   cases e2 : lookT T' (a : Int) (n : Int) with
   | none => rfl
   | some y =>
    have hk : ((a : Int), (n : Int)) ∈ keysE es' := by rw [mem_keysE hm', hg']; simp [e2]
    have := nodup_all (l := keysE es) (m := keysE es') hm.keys (fun k hk => by
     obtain ⟨b, x, b', y, _, e2, _⟩ := hgood k hk
     rw [mem_keysE hm', hg', e2]; rfl) (by rw [hkl, hkl]; omega) _ hk
    rw [mem_keysE hm, hg] at this
    simp [e1] at this
def ir47_l0_x : LC := (.block 1 (.seq (.ops [⟨some 20, Op.entry (Operand.tmp 17), none⟩,
  ⟨some 21, Op.extract (Operand.tmp 20) 0, none⟩,
  ⟨some 22, Op.extract (Operand.tmp 20) 1, none⟩,
  ⟨some 7, Op.alloc 75, none⟩,
  ⟨none, Op.store 75 (Operand.tmp 7) (Operand.tmp 21), none⟩,
  ⟨some 8, Op.assign (Operand.tmp 22), none⟩])
 (.seq (.ops [⟨some 24, Op.move (Operand.tmp 1), none⟩,
  ⟨some 25, Op.load 75 (Operand.tmp 7), none⟩,
  ⟨some 26, Op.lookup 66 (Operand.tmp 24) (Operand.tmp 25) true, none⟩,
  ⟨some 23, Op.move (Operand.tmp 26), none⟩,
  ⟨some 27, Op.extract (Operand.tmp 23) 0, none⟩,
  ⟨some 28, Op.extract (Operand.tmp 23) 1, none⟩,
  ⟨some 9, Op.assign (Operand.tmp 27), none⟩,
  ⟨some 10, Op.assign (Operand.tmp 28), none⟩])
 (.seq (.ops [⟨some 29, Op.move (Operand.tmp 10), none⟩,
  ⟨some 30, Op.unOp UnOp.not 4 (Operand.tmp 29), none⟩,
  ⟨some 31, Op.move (Operand.tmp 30), none⟩,
  ⟨some 32, Op.move (Operand.tmp 2), some (31, false)⟩,
  ⟨some 33, Op.move (Operand.tmp 8), some (31, false)⟩,
  ⟨some 34, Op.move (Operand.tmp 9), some (31, false)⟩,
  ⟨some 35, Op.call { callee := Callee.value (Operand.tmp 32), args := #[Operand.tmp 33, Operand.tmp 34], argTypes := #[76, 76] }, some (31, false)⟩,
  ⟨some 36, Op.unOp UnOp.not 4 (Operand.tmp 35), some (31, false)⟩,
  ⟨some 37, Op.pick (Operand.tmp 31) (Operand.const (Value.bool true)) (Operand.tmp 36), none⟩])
 (.cond (Operand.tmp 37)
 (.seq (.ops [⟨some 6, Op.assign (Operand.const (Value.bool false)), none⟩])
 .ret)
 .skip)))))
def ir47_l0_c : LC := (.seq (.ops [⟨some 18, Op.next (Operand.tmp 17) false, none⟩,
  ⟨some 19, Op.extract (Operand.tmp 18) 0, none⟩])
 (.seq (.cond (Operand.tmp 19)
 .skip
 (.exit 0))
 ir47_l0_x))
theorem ir47_l0_c_eq : ir47_l0 = ir47_l0_c := rfl
set_option maxHeartbeats 4000000 in
theorem equal47 {pp mp pp' mp' : Nat} {qs qs' : List Nat} {T T' : PT} {I' : Set'} (hp : PortsAt h I pp mp qs T) (hp' : PortsAt h I' pp' mp' qs' T') (hF : Fit T) (hF' : Fit T') (hR : ∀ b, R b) : SF ⟨Try.prog, true⟩ 47 [.map (some mp), .map (some mp'), .func 48 [] []] h R W fun v g => (∃ b, v = .bool b ∧ (b = true ↔ ∀ a n, sameP (absT T a n) (absT T' a n) = true)) ∧ h.n ≤ g.n ∧ ∀ k, k < h.n → g.get k = h.get k := by
 obtain ⟨es, ck, m1, m2, m3⟩ := hp.m
 obtain ⟨es', ck', m1', m2', m3'⟩ := hp'.m
 have hml := Heap.lt_of_get m1; have hml' := Heap.lt_of_get m1'
 have hRm := hR mp; have hRm' := hR mp'
 rw [same_iff m2 m2' m3 m3']
 have hI : ∀ k, I k → k < h.n := fun k hk => by obtain ⟨c, e, h1, _⟩ := hp.imm k hk; exact Heap.lt_of_get h1
 have hI' : ∀ k, I' k → k < h.n := fun k hk => by obtain ⟨c, e, h1, _⟩ := hp'.imm k hk; exact Heap.lt_of_get h1
 refine SF.go hm Try.func47 ir47_eq ?_
 by_cases hlen : es.length = es'.length
 rotate_left
 ·have hz : ((es.length : Int) != (es'.length : Int)) = true := by simp; omega
  simp -implicitDefEqProofs (disch := (first | omega | (simp -implicitDefEqProofs only [szs, ne_eq] <;> omega) | fail)) only [go_sem, seval, ↓reduceIte, reduceCtorEq, ir47, lenV, Try.underlying66, m1, m1', hRm, hRm', hz]
  exact ⟨false, rfl, ⟨fun h => (by cases h), fun h => absurd h.1 hlen⟩⟩
 have hz : ((es.length : Int) != (es'.length : Int)) = false := by simp [hlen]
 simp -implicitDefEqProofs (disch := (first | omega | (simp -implicitDefEqProofs only [szs, ne_eq] <;> omega) | fail)) only [go_sem, seval, ↓reduceIte, reduceCtorEq, ir47, lenV, Try.underlying66, m1, m1', hRm, hRm', hz, rangeV]
 rw [ir47_l0_c_eq]
 refine GLoop.inv hm (fun k f g => f.mks = [] ∧ f.tm.n = 38 ∧ f.tm.get 1 = some (.map (some mp')) ∧ f.tm.get 2 = some (.func 48 [] []) ∧ f.tm.get 17 = some (.ptr (some (h.n, 0))) ∧ h.n + 1 ≤ g.n ∧ (∀ b, b < h.n → g.get b = h.get b) ∧
  ∃ l seen, Seen es seen l ∧ l.length + k = es.length ∧ g.get h.n = some (.iter (some mp) ck seen ck) ∧ ∀ e ∈ l, goodK T T' (keyP e.1)) es.length ?_ ?_
 ·exact ⟨rfl, rfl, by simp -implicitDefEqProofs (disch := (first | omega | (simp -implicitDefEqProofs only [szs, ne_eq] <;> omega) | fail)) only [go_sem, seval, ↓reduceIte, reduceCtorEq], by simp -implicitDefEqProofs (disch := (first | omega | (simp -implicitDefEqProofs only [szs, ne_eq] <;> omega) | fail)) only [go_sem, seval, ↓reduceIte, reduceCtorEq], by simp -implicitDefEqProofs (disch := (first | omega | (simp -implicitDefEqProofs only [szs, ne_eq] <;> omega) | fail)) only [go_sem, seval, ↓reduceIte, reduceCtorEq], by simp, fun b hb => w_push_ne (by omega) _, [], [], Seen.nil es, by simp, w_push_eq rfl _, fun e he => by simp at he⟩
 rintro k ⟨⟨m, tr⟩, mks⟩ g ⟨hmk, hn, t1, t2, t17, hgn, hgo, l, seen, hs, hlk, hit, hall⟩
 simp only [Tm.get_mk] at hmk hn t1 t2 t17
 subst hmk hn
 have hgr : g.get mp = some (.map es ck) := by rw [hgo mp hml]; exact m1
 simp -implicitDefEqProofs (disch := (first | omega | (simp -implicitDefEqProofs only [szs, ne_eq] <;> omega) | fail)) only [go_sem, seval, ↓reduceIte, ir47_l0_c, t17, SNext, hit, hgr]
 refine ⟨.inr hRm, ?_, ?_, ?_⟩
 ·cases es with
  | nil => exact .inr (.inl rfl)
  | cons e es => exact .inr (.inr ⟨e, by simp, m2.ok.lt e (by simp)⟩)
 ·intro hal
  have hperm := hs.last m2.ok fun e he => hal e he (m2.ok.lt e he)
  exact ⟨⟨true, rfl, ⟨fun _ => ⟨hlen, fun k hk => by
   obtain ⟨e, he, rfl⟩ := List.mem_map.1 hk
   exact hall e (hperm.mem_iff.2 he)⟩, fun _ => rfl⟩⟩, by omega, hgo⟩
 ·intro e he hns
  have hs' := hs.step he hns
  have hle := hs'.length
  rw [List.length_append, List.length_singleton] at hle
  obtain ⟨gX, eX, nX, bX, kX⟩ : ∃ gX, g.set h.n (.iter (some mp) ck (seen ++ [e.2.2]) ck) = gX ∧ gX.n = g.n ∧ gX.get h.n = some (.iter (some mp) ck (seen ++ [e.2.2]) ck) ∧ ∀ b, b ≠ h.n → gX.get b = g.get b := ⟨_, rfl, by simp, w_set_eq (by omega) rfl _, fun b hb => w_set_ne (by omega) hb _⟩
  have hE := entry_at (g := gX) (b := h.n) bX (by rw [kX _ (by omega)]; exact hgr) m2.ok he
  obtain ⟨a, n, b, x, ha, hn, hk, hT, hv⟩ := hp.ent m2 m3 he
  have hkp : e.1 = kp ((a : Int), (n : Int)) := by
   obtain ⟨k', hk'⟩ := m2.ints e he
   have : keyP e.1 = k' := by rw [hk']; rfl
   rw [hk', ← this, hk]
  have hl1 : lookT T (a : Int) (n : Int) = some (b, x) := by unfold lookT; rw [if_pos ⟨by omega, by omega⟩, Int.toNat_natCast, Int.toNat_natCast]; exact hT
  obtain ⟨h3, e3, n3, b3, k3⟩ : ∃ h3, (gX.push (O.cells (Blk.of [V.int IntKind.i64 0, V.int IntKind.i64 0]) 75)).set gX.n (O.cells (((Blk.of [V.int IntKind.i64 0, V.int IntKind.i64 0]).set 0 (V.int IntKind.i64 (a : Int))).set 1 (V.int IntKind.i64 (n : Int))) 75) = h3 ∧ h3.n = gX.n + 1 ∧
   (∃ d, h3.get gX.n = some (.cells d 75) ∧ d.size = 2 ∧ d.get 0 = .int .i64 (a : Int) ∧ d.get 1 = .int .i64 (n : Int)) ∧ ∀ b, b < gX.n → h3.get b = gX.get b := ⟨_, rfl, by simp, ⟨_, w_set_eq (by simp) rfl _, rfl, by simp -implicitDefEqProofs (disch := (first | omega | (simp -implicitDefEqProofs only [szs, ne_eq] <;> omega) | fail)) only [go_sem, seval], by simp -implicitDefEqProofs (disch := (first | omega | (simp -implicitDefEqProofs only [szs, ne_eq] <;> omega) | fail)) only [go_sem, seval]⟩, fun b hb => by rw [w_set_ne (by simp) (by omega), w_push_ne (by omega)]⟩
  obtain ⟨d, b3, f1, f2, f3⟩ := b3
  have ho3 : ∀ b, b < h.n → h3.get b = h.get b := fun b hb => by rw [k3 b (by omega), kX b (by omega)]; exact hgo b hb
  have hm3 : h3.get mp' = some (.map es' ck') := by rw [ho3 _ hml']; exact m1'
  have hlk' := look_pair_ok (P := Try.prog) (t := 66) Try.underlying66 pk_75 (z := .ptr none) (by kernel_rfl) hm3 m2' ((a : Int), (n : Int))
  rw [m3'] at hlk'
  have hlk'' : lookV Try.prog 66 h3 (.map (some mp')) (.agg [.int .i64 (a : Int), .int .i64 (n : Int)]) true = _ := hlk'
  rw [hkp, hv, kp] at hE
  have hRn := hR gX.n
  have hWn : h.n ≤ gX.n ∨ W gX.n := .inl (by omega)
  cases e2 : lookT T' (a : Int) (n : Int) with
  | none =>
   rw [e2] at hlk''
   simp only [Option.map_none, Option.isSome_none, Option.getD_none] at hlk''
   simp -implicitDefEqProofs (disch := (first | omega | (simp -implicitDefEqProofs only [szs, ne_eq] <;> omega) | fail)) only [go_sem, seval, ↓reduceIte, ir47_l0_x, eX, hE, t1, t17, e3, b3, f1, f2, f3, hlk'', hRn, hRm', hWn]
   refine ⟨.inr hRm, ⟨false, rfl, ⟨fun h => (by cases h), fun h1 => ?_⟩⟩, by omega, ho3⟩
   obtain ⟨_, _, b', y, _, h2, _⟩ := h1.2 ((a : Int), (n : Int)) (by rw [← hk]; exact List.mem_map.2 ⟨e, he, rfl⟩)
   simp only at h2
   rw [e2] at h2; cases h2
  | some y =>
   obtain ⟨b', y⟩ := y
   rw [e2] at hlk''
   simp only [Option.map_some, Option.isSome_some, Option.getD_some] at hlk''
   obtain ⟨_, _, hT'⟩ := lookT_some e2
   have hpx := hp.pt _ _ _ _ hT
   have hpy := hp'.pt _ _ _ _ hT'
   simp -implicitDefEqProofs (disch := (first | omega | (simp -implicitDefEqProofs only [szs, ne_eq] <;> omega) | fail)) only [go_sem, seval, ↓reduceIte, ir47_l0_x, eX, hE, t1, t2, t17, e3, b3, f1, f2, f3, hlk'', hRn, hRm', hWn]
   refine ⟨.inr hRm, GCall.of (((eq48 (R := fun _ => True) (W := fun _ => False) (hpx.same (ho3 _ hpx.lt) fun k hk _ => ho3 k (hI k hk)) (hpy.same (ho3 _ hpy.lt) fun k hk _ => ho3 k (hI' k hk)) (fun k hk => by have := hI k hk; omega) (fun k hk => by have := hI' k hk; omega) (hF _ _ _ _ hT) (hF' _ _ _ _ hT') (fun _ => trivial)).any).foot (fun b _ => .inr (hR b)) (fun _ h => h.elim)) ?_⟩
   rintro r h4 ⟨rfl, hn4, hk4⟩
   have ho4 : ∀ b, b < h.n → h4.get b = h.get b := fun b hb => by rw [hk4 b (by omega)]; exact ho3 b hb
   cases e5 : portEq x y with
   | false =>
    simp -implicitDefEqProofs (disch := (first | omega | (simp -implicitDefEqProofs only [szs, ne_eq] <;> omega) | fail)) only [go_sem, seval, ↓reduceIte]
    refine ⟨⟨false, rfl, ⟨fun h => (by cases h), fun h1 => ?_⟩⟩, by omega, ho4⟩
    obtain ⟨_, x2, b2, y2, q1, q2, q3⟩ := h1.2 ((a : Int), (n : Int)) (by rw [← hk]; exact List.mem_map.2 ⟨e, he, rfl⟩)
    simp only at q1 q2
    rw [hl1] at q1; rw [e2] at q2
    cases q1; cases q2
    rw [e5] at q3; cases q3
   | true =>
    simp -implicitDefEqProofs (disch := (first | omega | (simp -implicitDefEqProofs only [szs, ne_eq] <;> omega) | fail)) only [go_sem, seval, ↓reduceIte, t1, t2, t17]
    refine ⟨k - 1, by omega, by omega, ho4, l ++ [e], _, hs', by simp; omega, by rw [hk4 _ (by omega), k3 _ (by omega)]; exact bX, fun e' he' => ?_⟩
    rcases List.mem_append.1 he' with h1 | h1
    ·exact hall e' h1
    ·rw [List.mem_singleton.1 h1, hk]
     exact ⟨b, x, b', y, hl1, e2, e5⟩
set_option maxHeartbeats 2000000 in
theorem same21 {pp mp pp' mp' : Nat} {qs qs' : List Nat} {T T' : PT} {I' : Set'} (hp : PortsAt h I pp mp qs T) (hp' : PortsAt h I' pp' mp' qs' T') (hF : Fit T) (hF' : Fit T') (hR : ∀ b, R b) : SF ⟨Try.prog, true⟩ 21 [.ptr (some (pp, 0)), .ptr (some (pp', 0))] h R W fun v g => (∃ b, v = .bool b ∧ (b = true ↔ SameA qs qs' (absT T) (absT T'))) ∧ h.n ≤ g.n ∧ ∀ k, k < h.n → g.get k = h.get k := by
 obtain ⟨c, c1, c2, c3, c4⟩ := hp.c
 obtain ⟨c', c1', c2', c3', c4'⟩ := hp'.c
 have q1 := c4.one; have q1' := c4'.one
 have hRp := hR pp; have hRp' := hR pp'
 refine SF.go hm Try.func21 ir21_eq ?_
 simp -implicitDefEqProofs (disch := (first | omega | fail)) only [go_sem, seval, ↓reduceIte, reduceCtorEq, ir21]
 refine GCall.of (there_ok hp (.inr (hR _))).any ?_
 rintro r h1 ⟨rfl, rfl⟩
 simp -implicitDefEqProofs (disch := (first | omega | fail)) only [go_sem, seval, ↓reduceIte, reduceCtorEq]
 refine GCall.of (there_ok hp' (.inr (hR _))).any ?_
 rintro r h2 ⟨rfl, rfl⟩
 simp -implicitDefEqProofs (disch := (first | omega | fail)) only [go_sem, seval, ↓reduceIte, reduceCtorEq, c1, c1', c2, c2']
 have e46 := equal46 (R := fun _ => True) (W := fun _ => False) (a := qs.map fun n : Nat => (n : Int)) (b := qs'.map fun n : Nat => (n : Int)) (by rw [List.map_map]; exact c4) (by rw [List.map_map]; exact c4') (fun _ => trivial) (by have := hp.qs; simp; omega)
 have hdq : decide ((qs.map fun n : Nat => (n : Int)) = qs'.map fun n : Nat => (n : Int)) = decide (qs = qs') := by
  by_cases h : qs = qs'
  ·rw [h, decide_eq_true rfl, decide_eq_true rfl]
  ·rw [decide_eq_false h, decide_eq_false fun e => h ?_]
   exact (List.map_inj_right fun a b e => by have h1 : (a : Int) = (b : Int) := e; omega).1 e
 rw [hdq] at e46
 refine GCallD.of (R' := fun _ => True) (W' := fun _ => False) e46 ?_
 rintro r h3 ⟨rfl, rfl⟩
 by_cases hq : qs = qs'
 rotate_left
 ·rw [decide_eq_false hq]
  simp -implicitDefEqProofs (disch := (first | omega | fail)) only [go_sem, seval, ↓reduceIte, reduceCtorEq]
  simp only [false_implies, implies_true, true_and, and_self, hR, or_true]
  exact ⟨false, rfl, ⟨fun h => (by cases h), fun h => absurd h.1 hq⟩⟩
 rw [decide_eq_true hq]
 simp -implicitDefEqProofs (disch := (first | omega | fail)) only [go_sem, seval, ↓reduceIte, reduceCtorEq, c1, c1', c2, c2', c3, c3']
 refine GCallD.dem (R' := fun _ => True) (W' := fun _ => False) (equal47 (R := fun _ => True) (W := fun _ => False) hp hp' hF hF' (fun _ => trivial)) rfl trivial ?_ ?_
 ·simp -implicitDefEqProofs (disch := (first | omega | fail)) only [go_sem, seval]
  simp only [false_implies, implies_true, and_self, hR, or_true]
 rintro r h4 ⟨⟨b, rfl, hb⟩, hn4, hk4⟩
 simp -implicitDefEqProofs (disch := (first | omega | fail)) only [go_sem, seval, ↓reduceIte, reduceCtorEq]
 simp only [false_implies, implies_true, true_and, and_self, hR, or_true]
 exact ⟨⟨b, rfl, hb.trans ⟨fun h => ⟨hq, h⟩, fun h => h.2⟩⟩, hn4, hk4⟩
end Go.Proofs.Ytmimialblhlklaa
