/- Tables of pages: Get, Set, Clear, Rights, Clean, Ask. -/
import Derived.Test.YtkfhdaimememiaaA
set_option linter.unusedVariables false
set_option linter.unusedSimpArgs false
set_option linter.unusedSimpArgs false
set_option maxRecDepth 100000
set_option linter.unusedVariables false
set_option linter.unusedSimpArgs false
namespace Go.Proofs.Ytkfhdaimememiaa
open Go Go.Vm
def Ce.v (x : Ce) : V := .agg [.int .i64 x.f, .int .i64 x.r, .bool x.t, .bool x.w]
/-- What is told of a page: what stands there, or nothing. -/
def getC (T : Tb) (s p : Int) : Ce := if okSP s p then T s.toNat p.toNat else none
theorem okAt0 {s p : Int} : okAt s p 0 ↔ okSP s p := ⟨fun h => h.1, fun h => ⟨h, by omega, by omega⟩⟩
theorem set_get {T : Tb} {s p : Int} : setE T s p 0 = 0 ∧ (∃ e, getC T s p = some e ∧ T s.toNat p.toNat = some e ∧ okSP s p) ∨ setE T s p 0 ≠ 0 ∧ getC T s p = none := by
  unfold setE getC
  by_cases h : okSP s p
  · rw [if_pos (okAt0.2 h), if_pos h]
    cases hT : T s.toNat p.toNat with
    | none => exact .inr ⟨by simp, rfl⟩
    | some e => exact .inl ⟨rfl, e, rfl, rfl, h⟩
  · rw [if_neg (fun h' => h (okAt0.1 h')), if_neg h]
    exact .inr ⟨by omega, rfl⟩
set_option maxHeartbeats 1000000 in
theorem get_ok {h : Heap} {R W : Set'} {tb r : Nat} {T : Tb} (ht : TabAt h tb r T) (hR : R tb) (s p : Int) :
    SF Try.prog 13 [.ptr (some (tb, 0)), .int .i64 s, .int .i64 p] h R W fun v h' => v = .tuple [(getC T s p).v, .bool (getC T s p).isSome] ∧ h.n ≤ h'.n ∧ ∀ b, b < h.n → h'.get b = h.get b := by
  have hlt := ht.lt
  refine SF.go hm Try.func13 ir13_eq ?_
  obtain ⟨h1, e1, n1, b1, k1⟩ : ∃ h1, h.push (O.cells (Blk.of [V.int IntKind.i64 0, V.int IntKind.i64 0, V.bool false, V.bool false]) 34) = h1 ∧ h1.n = h.n + 1 ∧ h1.get h.n = some (O.cells (Blk.of [V.int IntKind.i64 0, V.int IntKind.i64 0, V.bool false, V.bool false]) 34) ∧ ∀ b, b < h.n → h1.get b = h.get b := ⟨_, rfl, by simp, w_push_eq rfl _, fun b hb => w_push_ne (by omega) _⟩
  simp -implicitDefEqProofs (disch := (first | omega | (simp -implicitDefEqProofs only [szs, ne_eq] <;> omega) | fail)) only [go_sem, Nat.reduceAdd, Nat.reduceSub, Nat.reduceMul, Nat.reduceLT, Nat.reduceMod, Nat.reduceDiv, Nat.reduceEqDiff, Nat.reduceBEq, Nat.reduceLeDiff, ↓reduceIte, reduceCtorEq, Int.reduceAdd, Int.reduceSub, Int.reduceLT, Int.reduceLE, Int.reduceBEq, Int.reduceEq, Int.reduceToNat, ir13, e1]
  clear e1
  have ht1 := ht.old k1
  refine GCall.of (set_ok ht1 (.inr hR) s p 0) ?_
  rintro v h2 ⟨rfl, n2, k2⟩
  have ht2 := ht1.old k2
  obtain ⟨c, t1, t2, t3, t4, t5⟩ := ht2.t
  have b2 := (k2 h.n (by omega)).trans b1
  rcases set_get (T := T) (s := s) (p := p) with ⟨he, e, hg, hT, hok⟩ | ⟨he, hg⟩
  · have hp : setP T tb s p 0 = .ptr (some (tb, s.toNat * 160 + p.toNat * 5)) := if_pos ⟨okAt0.2 hok, by rw [hT]; rfl⟩
    have hs : s.toNat * 160 + p.toNat * 5 + 5 ≤ 2561 := by unfold okSP at hok; omega
    obtain ⟨c0, c1, c2, c3, c4⟩ := t4.at (okAt0.2 hok)
    rw [hT] at c0 c1 c2 c3 c4
    generalize s.toNat * 160 + p.toNat * 5 = o at *
    have d2 : c.get (o + 1 + 1) = _ := c2
    have d3 : c.get (o + 1 + 2) = _ := c3
    have d4 : c.get (o + 1 + 3) = _ := c4
    rw [he, hp, hg]
    simp -implicitDefEqProofs (disch := (first | omega | (simp -implicitDefEqProofs only [szs, ne_eq] <;> omega) | fail)) only [go_sem, Nat.reduceAdd, Nat.reduceSub, Nat.reduceMul, Nat.reduceLT, Nat.reduceMod, Nat.reduceDiv, Nat.reduceEqDiff, Nat.reduceBEq, Nat.reduceLeDiff, ↓reduceIte, reduceCtorEq, Int.reduceAdd, Int.reduceSub, Int.reduceLT, Int.reduceLE, Int.reduceBEq, Int.reduceEq, Int.reduceToNat, undefV, t1, t2, c1, c2, c3, c4, d2, d3, d4, hR, b2, Ce.v, Option.isSome_some]
    exact ⟨by omega, fun b hb => by rw [w_set_ne (by omega) (by omega), k2 b (by omega), k1 b hb]⟩
  · have he' : (setE T s p 0 != 0) = true := by simpa using he
    rw [hg]
    simp -implicitDefEqProofs (disch := (first | omega | (simp -implicitDefEqProofs only [szs, ne_eq] <;> omega) | fail)) only [go_sem, Nat.reduceAdd, Nat.reduceSub, Nat.reduceMul, Nat.reduceLT, Nat.reduceMod, Nat.reduceDiv, Nat.reduceEqDiff, Nat.reduceBEq, Nat.reduceLeDiff, ↓reduceIte, reduceCtorEq, Int.reduceAdd, Int.reduceSub, Int.reduceLT, Int.reduceLE, Int.reduceBEq, Int.reduceEq, Int.reduceToNat, undefV, he', b2, Ce.v, Option.isSome_none]
    exact ⟨rfl, by omega, fun b hb => by rw [w_set_ne (by omega) (by omega), k2 b (by omega), k1 b hb]⟩
/-- A block in which one cell was turned. -/
structure Fit (c c' : Blk) (o : Nat) (x : Ce) : Prop where
  size : c'.size = c.size
  ro : c'.ro = c.ro
  old : ∀ i, (i < o ∨ o + 5 ≤ i) → c'.get i = c.get i
  cell : CellAt c' o x
theorem whereV_upd {T : Tb} {s p : Int} (hs : okSP s p) (x : Ce) (k : Int × Int) : whereV (T.upd s.toNat p.toNat x) k = if k = (s, p) then x.map (fun e => .int .i64 e.f) else whereV T k := by
  obtain ⟨a, b⟩ := k
  unfold whereV
  by_cases h : okSP a b
  · rw [if_pos h, if_pos h]
    by_cases e : (a, b) = (s, p)
    · cases e; rw [if_pos rfl]; simp [Tb.upd]
    · rw [if_neg e]
      have : ¬ (a.toNat = s.toNat ∧ b.toNat = p.toNat) := fun h' => e (by unfold okSP at h hs; rw [show a = s by omega, show b = p by omega])
      simp only [Tb.upd, if_neg this]
  · rw [if_neg h, if_neg h, if_neg (fun e => h (by cases e; exact hs))]
theorem TabAt.fit' {h h' : Heap} {tb r : Nat} {T : Tb} (ht : TabAt h tb r T) {c c' : Blk} (hc : h.get tb = some (.cells c 64)) {s p : Int} (hs : okSP s p) {x : Ce} (hf : Fit c c' (s.toNat * 160 + p.toNat * 5) x) (hx : x.map En.f = (T s.toNat p.toNat).map En.f) (hb : h'.get tb = some (.cells c' 64)) (hr : h'.get r = h.get r) : TabAt h' tb r (T.upd s.toNat p.toNat x) := by
  obtain ⟨⟨c0, t1, t2, t3, t4, t5⟩, es, ck, m1, m2, m3⟩ := ht
  rw [t1] at hc; cases hc
  have hb' : s.toNat * 160 + p.toNat * 5 + 5 ≤ 2560 := by unfold okSP at hs; omega
  refine ⟨⟨c', hb, by rw [hf.size]; exact t2, by rw [hf.ro]; exact t3, t4.upd (by unfold okSP at hs; omega) (fun i _ hi => hf.old i hi) hf.cell, by rw [hf.old _ (by omega)]; exact t5⟩, es, ck, by rw [hr]; exact m1, m2, fun k => ?_⟩
  rw [m3, whereV_upd hs]
  by_cases e : k = (s, p)
  · subst e
    rw [if_pos rfl, whereV, if_pos hs]
    have hx' := congrArg (Option.map fun f => V.int IntKind.i64 f) hx
    rw [Option.map_map, Option.map_map] at hx'
    exact hx'.symm
  · rw [if_neg e]
theorem TabAt.fit {h : Heap} {tb r : Nat} {T : Tb} (ht : TabAt h tb r T) {c c' : Blk} (hc : h.get tb = some (.cells c 64)) {s p : Int} (hs : okSP s p) {x : Ce} (hf : Fit c c' (s.toNat * 160 + p.toNat * 5) x) (hx : x.map En.f = (T s.toNat p.toNat).map En.f) : TabAt (h.set tb (.cells c' 64)) tb r (T.upd s.toNat p.toNat x) :=
  ht.fit' hc hs hf hx (w_set_eq ht.lt.1 rfl _) (w_set_ne ht.lt.1 (Ne.symm ht.lt.2.2) _)
theorem TabAt.fitm {h h' : Heap} {tb r : Nat} {T : Tb} (ht : TabAt h tb r T) {c c' : Blk} (hc : h.get tb = some (.cells c 64)) {s p : Int} (hs : okSP s p) {x : Ce} (hf : Fit c c' (s.toNat * 160 + p.toNat * 5) x) {es' : Ents} {ck' : Nat} (hb : h'.get tb = some (.cells c' 64)) (hr : h'.get r = some (.map es' ck')) (hm : PMap es' ck')
    (hg : ∀ es ck, h.get r = some (.map es ck) → ∀ k, getP es' k = if k = (s, p) then x.map (fun e => .int .i64 e.f) else getP es k) : TabAt h' tb r (T.upd s.toNat p.toNat x) := by
  have hlt := ht.lt
  obtain ⟨⟨c0, t1, t2, t3, t4, t5⟩, es, ck, m1, m2, m3⟩ := ht
  rw [t1] at hc; cases hc
  have hb' : s.toNat * 160 + p.toNat * 5 + 5 ≤ 2560 := by unfold okSP at hs; omega
  refine ⟨⟨c', hb, by rw [hf.size]; exact t2, by rw [hf.ro]; exact t3, t4.upd (by unfold okSP at hs; omega) (fun i _ hi => hf.old i hi) hf.cell, by rw [hf.old _ (by omega)]; exact t5⟩, es', ck', hr, hm, fun k => ?_⟩
  rw [hg es ck m1, whereV_upd hs, m3]
theorem RefP.fit {h : Heap} {rd : Nat} {T : Tb} (hr : RefP h rd T) {c c' : Blk} (hc : h.get rd = some (.cells c 87)) {s p : Int} (hs : okSP s p) {x : Ce} (hf : Fit c c' (s.toNat * 160 + p.toNat * 5) x) : RefP (h.set rd (.cells c' 87)) rd (T.upd s.toNat p.toNat x) := by
  obtain ⟨c0, t1, t2, t3, t4⟩ := hr
  rw [t1] at hc; cases hc
  exact ⟨c', w_set_eq (Heap.lt_of_get t1) rfl _, by rw [hf.size]; exact t2, by rw [hf.ro]; exact t3, t4.upd (by unfold okSP at hs; omega) (fun i _ hi => hf.old i hi) hf.cell⟩
/-- What Set answers, and leaves. -/
def okF (f : Int) : Prop := 0 ≤ f ∧ f < 256
instance (f : Int) : Decidable (okF f) := by unfold okF; infer_instance
def putE (T : Tb) (s p f rt : Int) : Int := if ¬ okAt s p rt then 2 else if ¬ okF f then 2 else if (T s.toNat p.toNat).isSome then 7 else 0
def putT (T : Tb) (s p f rt : Int) : Tb := if putE T s p f rt = 0 then T.upd s.toNat p.toNat (some ⟨f, rt, false, false⟩) else T
set_option maxHeartbeats 2000000 in
theorem put_ok {h : Heap} {R W : Set'} {tb r : Nat} {T : Tb} (ht : TabAt h tb r T) (hR : ∀ b, b = tb ∨ b = r → R b) (hW : ∀ b, b = tb ∨ b = r → W b) (s p f rt : Int) :
    SF Try.prog 23 [.ptr (some (tb, 0)), .int .i64 s, .int .i64 p, .int .i64 f, .int .i64 rt] h R W fun v h' => v = .int .i64 (putE T s p f rt) ∧ TabAt h' tb r (putT T s p f rt) := by
  have hlt := ht.lt
  have hR1 := hR tb (.inl rfl)
  have hR2 := hR r (.inr rfl)
  have hW1 := hW tb (.inl rfl)
  have hW2 := hW r (.inr rfl)
  refine SF.go hm Try.func23 ir23_eq ?_
  simp -implicitDefEqProofs (disch := (first | omega | (simp -implicitDefEqProofs only [szs, ne_eq] <;> omega) | fail)) only [go_sem, Nat.reduceAdd, Nat.reduceSub, Nat.reduceMul, Nat.reduceLT, Nat.reduceMod, Nat.reduceDiv, Nat.reduceEqDiff, Nat.reduceBEq, Nat.reduceLeDiff, ↓reduceIte, reduceCtorEq, Int.reduceAdd, Int.reduceSub, Int.reduceLT, Int.reduceLE, Int.reduceBEq, Int.reduceEq, Int.reduceToNat, ir23]
  refine GCall.of (at_ok ht (.inr hR1) s p rt) ?_
  rintro v h1 ⟨rfl, n1, k1⟩
  have ht1 := ht.old k1
  obtain ⟨c, t1, t2, t3, t4, t5⟩ := ht1.t
  by_cases hok : okAt s p rt
  · rw [if_pos hok, if_pos hok]
    by_cases hf0 : f < 0
    · have e : putE T s p f rt = 2 := by rw [putE, if_neg (fun h => h hok), if_pos (fun h => by unfold okF at h; omega)]
      rw [putT, e]
      simp -implicitDefEqProofs (disch := (first | omega | (simp -implicitDefEqProofs only [szs, ne_eq] <;> omega) | fail)) only [go_sem, Nat.reduceAdd, Nat.reduceSub, Nat.reduceMul, Nat.reduceLT, Nat.reduceMod, Nat.reduceDiv, Nat.reduceEqDiff, Nat.reduceBEq, Nat.reduceLeDiff, ↓reduceIte, reduceCtorEq, Int.reduceAdd, Int.reduceSub, Int.reduceLT, Int.reduceLE, Int.reduceBEq, Int.reduceEq, Int.reduceToNat, undefV]
      exact ht1
    by_cases hf1 : 256 ≤ f
    · have e : putE T s p f rt = 2 := by rw [putE, if_neg (fun h => h hok), if_pos (fun h => by unfold okF at h; omega)]
      rw [putT, e]
      simp -implicitDefEqProofs (disch := (first | omega | (simp -implicitDefEqProofs only [szs, ne_eq] <;> omega) | fail)) only [go_sem, Nat.reduceAdd, Nat.reduceSub, Nat.reduceMul, Nat.reduceLT, Nat.reduceMod, Nat.reduceDiv, Nat.reduceEqDiff, Nat.reduceBEq, Nat.reduceLeDiff, ↓reduceIte, reduceCtorEq, Int.reduceAdd, Int.reduceSub, Int.reduceLT, Int.reduceLE, Int.reduceBEq, Int.reduceEq, Int.reduceToNat, undefV]
      exact ht1
    have hF : okF f := ⟨by omega, by omega⟩
    obtain ⟨c0, c1, c2, c3, c4⟩ := t4.at hok
    have hs : s.toNat * 160 + p.toNat * 5 + 5 ≤ 2560 := by have h := hok; unfold okAt okSP at h; omega
    cases hT : T s.toNat p.toNat with
    | some x =>
      have e : putE T s p f rt = 7 := by rw [putE, if_neg (fun h => h hok), if_neg (fun h => h hF), hT]; rfl
      rw [putT, e]
      rw [hT] at c0
      simp only [Option.isSome_some] at c0
      generalize s.toNat * 160 + p.toNat * 5 = o at *
      simp -implicitDefEqProofs (disch := (first | omega | (simp -implicitDefEqProofs only [szs, ne_eq] <;> omega) | fail)) only [go_sem, Nat.reduceAdd, Nat.reduceSub, Nat.reduceMul, Nat.reduceLT, Nat.reduceMod, Nat.reduceDiv, Nat.reduceEqDiff, Nat.reduceBEq, Nat.reduceLeDiff, ↓reduceIte, reduceCtorEq, Int.reduceAdd, Int.reduceSub, Int.reduceLT, Int.reduceLE, Int.reduceBEq, Int.reduceEq, Int.reduceToNat, undefV, t1, t2, c0, hR1]
      exact ht1
    | none =>
      have e : putE T s p f rt = 0 := by rw [putE, if_neg (fun h => h hok), if_neg (fun h => h hF), hT]; rfl
      rw [putT, e, if_pos rfl]
      rw [hT] at c0
      simp only [Option.isSome_none] at c0
      generalize ho : s.toNat * 160 + p.toNat * 5 = o at *
      obtain ⟨es, ck, m1, m2, m3⟩ := ht1.m
      obtain ⟨c', hc'⟩ : ∃ c' : Blk, ((((c.set o (V.bool true)).set (o + 1) (V.int IntKind.i64 f)).set (o + 1 + 1) (V.int IntKind.i64 rt)).set (o + 1 + 1 + 1) (V.bool false)).set (o + 1 + 1 + 1 + 1) (V.bool false) = c' := ⟨_, rfl⟩
      have fit : Fit c c' o (some ⟨f, rt, false, false⟩) := by
        subst hc'
        refine ⟨by simp -implicitDefEqProofs (disch := (first | omega | (simp -implicitDefEqProofs only [szs, ne_eq] <;> omega) | fail)) only [go_sem, Nat.reduceAdd, Nat.reduceSub, Nat.reduceMul, Nat.reduceLT, Nat.reduceMod, Nat.reduceDiv, Nat.reduceEqDiff, Nat.reduceBEq, Nat.reduceLeDiff, ↓reduceIte, reduceCtorEq, Int.reduceAdd, Int.reduceSub, Int.reduceLT, Int.reduceLE, Int.reduceBEq, Int.reduceEq, Int.reduceToNat], by simp -implicitDefEqProofs (disch := (first | omega | (simp -implicitDefEqProofs only [szs, ne_eq] <;> omega) | fail)) only [go_sem, Nat.reduceAdd, Nat.reduceSub, Nat.reduceMul, Nat.reduceLT, Nat.reduceMod, Nat.reduceDiv, Nat.reduceEqDiff, Nat.reduceBEq, Nat.reduceLeDiff, ↓reduceIte, reduceCtorEq, Int.reduceAdd, Int.reduceSub, Int.reduceLT, Int.reduceLE, Int.reduceBEq, Int.reduceEq, Int.reduceToNat, Blk.ro_set], fun i hi => by simp -implicitDefEqProofs (disch := (first | omega | (simp -implicitDefEqProofs only [szs, ne_eq] <;> omega) | fail)) only [go_sem, Nat.reduceAdd, Nat.reduceSub, Nat.reduceMul, Nat.reduceLT, Nat.reduceMod, Nat.reduceDiv, Nat.reduceEqDiff, Nat.reduceBEq, Nat.reduceLeDiff, ↓reduceIte, reduceCtorEq, Int.reduceAdd, Int.reduceSub, Int.reduceLT, Int.reduceLE, Int.reduceBEq, Int.reduceEq, Int.reduceToNat], ⟨by simp -implicitDefEqProofs (disch := (first | omega | (simp -implicitDefEqProofs only [szs, ne_eq] <;> omega) | fail)) only [go_sem, Nat.reduceAdd, Nat.reduceSub, Nat.reduceMul, Nat.reduceLT, Nat.reduceMod, Nat.reduceDiv, Nat.reduceEqDiff, Nat.reduceBEq, Nat.reduceLeDiff, ↓reduceIte, reduceCtorEq, Int.reduceAdd, Int.reduceSub, Int.reduceLT, Int.reduceLE, Int.reduceBEq, Int.reduceEq, Int.reduceToNat]; rfl, by simp -implicitDefEqProofs (disch := (first | omega | (simp -implicitDefEqProofs only [szs, ne_eq] <;> omega) | fail)) only [go_sem, Nat.reduceAdd, Nat.reduceSub, Nat.reduceMul, Nat.reduceLT, Nat.reduceMod, Nat.reduceDiv, Nat.reduceEqDiff, Nat.reduceBEq, Nat.reduceLeDiff, ↓reduceIte, reduceCtorEq, Int.reduceAdd, Int.reduceSub, Int.reduceLT, Int.reduceLE, Int.reduceBEq, Int.reduceEq, Int.reduceToNat]; rfl, ?_, ?_, ?_⟩⟩
        · show Blk.get _ (o + 1 + 1) = _
          simp -implicitDefEqProofs (disch := (first | omega | (simp -implicitDefEqProofs only [szs, ne_eq] <;> omega) | fail)) only [go_sem, Nat.reduceAdd, Nat.reduceSub, Nat.reduceMul, Nat.reduceLT, Nat.reduceMod, Nat.reduceDiv, Nat.reduceEqDiff, Nat.reduceBEq, Nat.reduceLeDiff, ↓reduceIte, reduceCtorEq, Int.reduceAdd, Int.reduceSub, Int.reduceLT, Int.reduceLE, Int.reduceBEq, Int.reduceEq, Int.reduceToNat]; rfl
        · show Blk.get _ (o + 1 + 1 + 1) = _
          simp -implicitDefEqProofs (disch := (first | omega | (simp -implicitDefEqProofs only [szs, ne_eq] <;> omega) | fail)) only [go_sem, Nat.reduceAdd, Nat.reduceSub, Nat.reduceMul, Nat.reduceLT, Nat.reduceMod, Nat.reduceDiv, Nat.reduceEqDiff, Nat.reduceBEq, Nat.reduceLeDiff, ↓reduceIte, reduceCtorEq, Int.reduceAdd, Int.reduceSub, Int.reduceLT, Int.reduceLE, Int.reduceBEq, Int.reduceEq, Int.reduceToNat]; rfl
        · show Blk.get _ (o + 1 + 1 + 1 + 1) = _
          simp -implicitDefEqProofs (disch := (first | omega | (simp -implicitDefEqProofs only [szs, ne_eq] <;> omega) | fail)) only [go_sem, Nat.reduceAdd, Nat.reduceSub, Nat.reduceMul, Nat.reduceLT, Nat.reduceMod, Nat.reduceDiv, Nat.reduceEqDiff, Nat.reduceBEq, Nat.reduceLeDiff, ↓reduceIte, reduceCtorEq, Int.reduceAdd, Int.reduceSub, Int.reduceLT, Int.reduceLE, Int.reduceBEq, Int.reduceEq, Int.reduceToNat]; rfl
      have hl1 := Heap.lt_of_get t1
      obtain ⟨g, eg, gn, gt, gk⟩ : ∃ g, h1.set tb (O.cells c' 64) = g ∧ g.n = h1.n ∧ g.get tb = some (O.cells c' 64) ∧ ∀ b, b ≠ tb → g.get b = h1.get b := ⟨_, rfl, by simp, w_set_eq hl1 rfl _, fun b hb => w_set_ne hl1 hb _⟩
      have gr := (gk r (Ne.symm hlt.2.2)).trans m1
      obtain ⟨es', ck', hu, u1, u2, u3⟩ := upd_pair (P := Try.prog) (t := 62) Try.underlying62 pk_50 gr m2 (s, p) (.int .i64 f)
      have hu' : updV Try.prog 62 g (.map (some r)) (.agg [.int .i64 s, .int .i64 p]) (.int .i64 f) = some (g.set r (.map es' ck'), [r]) := hu
      have hcs : c'.size = 2561 := by rw [fit.size]; exact t2
      have hcg : c'.get 2560 = .map (some r) := by rw [fit.old _ (by omega)]; exact t5
      simp -implicitDefEqProofs (disch := (first | omega | (simp -implicitDefEqProofs only [szs, ne_eq] <;> omega) | fail)) only [go_sem, Nat.reduceAdd, Nat.reduceSub, Nat.reduceMul, Nat.reduceLT, Nat.reduceMod, Nat.reduceDiv, Nat.reduceEqDiff, Nat.reduceBEq, Nat.reduceLeDiff, ↓reduceIte, reduceCtorEq, Int.reduceAdd, Int.reduceSub, Int.reduceLT, Int.reduceLE, Int.reduceBEq, Int.reduceEq, Int.reduceToNat, undefV, t1, t2, t3, t5, c0, hR1, hW1, hc', eg, gt, hcs, hcg, hu', hW2]
      refine ht1.fitm (c' := c') t1 hok.1 (by rw [ho]; exact fit) (by rw [w_set_ne (Heap.lt_of_get gr) hlt.2.2]; exact gt) (w_set_eq (Heap.lt_of_get gr) rfl _) u1 fun es2 ck2 he k => ?_
      rw [m1] at he; cases he
      exact u2 k
  · have e : putE T s p f rt = 2 := if_pos hok
    rw [putT, e, if_neg hok, if_neg hok]
    simp -implicitDefEqProofs (disch := (first | omega | (simp -implicitDefEqProofs only [szs, ne_eq] <;> omega) | fail)) only [go_sem, Nat.reduceAdd, Nat.reduceSub, Nat.reduceMul, Nat.reduceLT, Nat.reduceMod, Nat.reduceDiv, Nat.reduceEqDiff, Nat.reduceBEq, Nat.reduceLeDiff, ↓reduceIte, reduceCtorEq, Int.reduceAdd, Int.reduceSub, Int.reduceLT, Int.reduceLE, Int.reduceBEq, Int.reduceEq, Int.reduceToNat, undefV]
    exact ht1
/-- What Clear, Rights and Clean leave. -/
def clrT (T : Tb) (s p : Int) : Tb := if setE T s p 0 = 0 then T.upd s.toNat p.toNat none else T
def rgtT (T : Tb) (s p rt : Int) : Tb := if setE T s p rt = 0 then T.upd s.toNat p.toNat ((T s.toNat p.toNat).map fun e => { e with r := rt }) else T
def clnT (T : Tb) (s p : Int) : Tb := if setE T s p 0 = 0 then T.upd s.toNat p.toNat ((T s.toNat p.toNat).map fun e => { e with t := false, w := false }) else T
theorem set_some {T : Tb} {tb : Nat} {s p rt : Int} (h : setE T s p rt = 0) : okAt s p rt ∧ (∃ e, T s.toNat p.toNat = some e) ∧ setP T tb s p rt = .ptr (some (tb, s.toNat * 160 + p.toNat * 5)) := by
  unfold setE at h
  split at h
  · rename_i hok
    split at h
    · rename_i hs
      cases hT : T s.toNat p.toNat with
      | none => rw [hT] at hs; cases hs
      | some e => exact ⟨hok, ⟨e, rfl⟩, if_pos ⟨hok, by rw [hT]; rfl⟩⟩
    · cases h
  · cases h
set_option maxHeartbeats 2000000 in
theorem rights_ok {h : Heap} {R W : Set'} {tb r : Nat} {T : Tb} (ht : TabAt h tb r T) (hR : R tb) (hW : W tb) (s p rt : Int) :
    SF Try.prog 30 [.ptr (some (tb, 0)), .int .i64 s, .int .i64 p, .int .i64 rt] h R W fun v h' => v = .int .i64 (setE T s p rt) ∧ TabAt h' tb r (rgtT T s p rt) := by
  have hlt := ht.lt
  refine SF.go hm Try.func30 ir30_eq ?_
  simp -implicitDefEqProofs (disch := (first | omega | (simp -implicitDefEqProofs only [szs, ne_eq] <;> omega) | fail)) only [go_sem, Nat.reduceAdd, Nat.reduceSub, Nat.reduceMul, Nat.reduceLT, Nat.reduceMod, Nat.reduceDiv, Nat.reduceEqDiff, Nat.reduceBEq, Nat.reduceLeDiff, ↓reduceIte, reduceCtorEq, Int.reduceAdd, Int.reduceSub, Int.reduceLT, Int.reduceLE, Int.reduceBEq, Int.reduceEq, Int.reduceToNat, ir30]
  refine GCall.of (set_ok ht (.inr hR) s p rt) ?_
  rintro v h1 ⟨rfl, n1, k1⟩
  have ht1 := ht.old k1
  obtain ⟨c, t1, t2, t3, t4, t5⟩ := ht1.t
  by_cases he : setE T s p rt = 0
  · obtain ⟨hok, ⟨e, hT⟩, hp⟩ := set_some (tb := tb) he
    have hs : s.toNat * 160 + p.toNat * 5 + 5 ≤ 2560 := by have h := hok; unfold okAt okSP at h; omega
    have hcell := t4.at hok
    rw [rgtT, if_pos he, he, hp, hT]
    rw [hT] at hcell
    obtain ⟨c0, c1, c2, c3, c4⟩ := hcell
    generalize ho : s.toNat * 160 + p.toNat * 5 = o at *
    have fit : Fit c (c.set (o + 1 + 1) (.int .i64 rt)) o (some { e with r := rt }) := by
      refine ⟨by simp -implicitDefEqProofs (disch := (first | omega | (simp -implicitDefEqProofs only [szs, ne_eq] <;> omega) | fail)) only [go_sem, Nat.reduceAdd, Nat.reduceSub, Nat.reduceMul, Nat.reduceLT, Nat.reduceMod, Nat.reduceDiv, Nat.reduceEqDiff, Nat.reduceBEq, Nat.reduceLeDiff, ↓reduceIte, reduceCtorEq, Int.reduceAdd, Int.reduceSub, Int.reduceLT, Int.reduceLE, Int.reduceBEq, Int.reduceEq, Int.reduceToNat], by simp -implicitDefEqProofs (disch := (first | omega | (simp -implicitDefEqProofs only [szs, ne_eq] <;> omega) | fail)) only [go_sem, Nat.reduceAdd, Nat.reduceSub, Nat.reduceMul, Nat.reduceLT, Nat.reduceMod, Nat.reduceDiv, Nat.reduceEqDiff, Nat.reduceBEq, Nat.reduceLeDiff, ↓reduceIte, reduceCtorEq, Int.reduceAdd, Int.reduceSub, Int.reduceLT, Int.reduceLE, Int.reduceBEq, Int.reduceEq, Int.reduceToNat, Blk.ro_set], fun i hi => by simp -implicitDefEqProofs (disch := (first | omega | (simp -implicitDefEqProofs only [szs, ne_eq] <;> omega) | fail)) only [go_sem, Nat.reduceAdd, Nat.reduceSub, Nat.reduceMul, Nat.reduceLT, Nat.reduceMod, Nat.reduceDiv, Nat.reduceEqDiff, Nat.reduceBEq, Nat.reduceLeDiff, ↓reduceIte, reduceCtorEq, Int.reduceAdd, Int.reduceSub, Int.reduceLT, Int.reduceLE, Int.reduceBEq, Int.reduceEq, Int.reduceToNat], ⟨by simp -implicitDefEqProofs (disch := (first | omega | (simp -implicitDefEqProofs only [szs, ne_eq] <;> omega) | fail)) only [go_sem, Nat.reduceAdd, Nat.reduceSub, Nat.reduceMul, Nat.reduceLT, Nat.reduceMod, Nat.reduceDiv, Nat.reduceEqDiff, Nat.reduceBEq, Nat.reduceLeDiff, ↓reduceIte, reduceCtorEq, Int.reduceAdd, Int.reduceSub, Int.reduceLT, Int.reduceLE, Int.reduceBEq, Int.reduceEq, Int.reduceToNat]; exact c0, by simp -implicitDefEqProofs (disch := (first | omega | (simp -implicitDefEqProofs only [szs, ne_eq] <;> omega) | fail)) only [go_sem, Nat.reduceAdd, Nat.reduceSub, Nat.reduceMul, Nat.reduceLT, Nat.reduceMod, Nat.reduceDiv, Nat.reduceEqDiff, Nat.reduceBEq, Nat.reduceLeDiff, ↓reduceIte, reduceCtorEq, Int.reduceAdd, Int.reduceSub, Int.reduceLT, Int.reduceLE, Int.reduceBEq, Int.reduceEq, Int.reduceToNat]; exact c1, ?_, by simp -implicitDefEqProofs (disch := (first | omega | (simp -implicitDefEqProofs only [szs, ne_eq] <;> omega) | fail)) only [go_sem, Nat.reduceAdd, Nat.reduceSub, Nat.reduceMul, Nat.reduceLT, Nat.reduceMod, Nat.reduceDiv, Nat.reduceEqDiff, Nat.reduceBEq, Nat.reduceLeDiff, ↓reduceIte, reduceCtorEq, Int.reduceAdd, Int.reduceSub, Int.reduceLT, Int.reduceLE, Int.reduceBEq, Int.reduceEq, Int.reduceToNat]; exact c3, by simp -implicitDefEqProofs (disch := (first | omega | (simp -implicitDefEqProofs only [szs, ne_eq] <;> omega) | fail)) only [go_sem, Nat.reduceAdd, Nat.reduceSub, Nat.reduceMul, Nat.reduceLT, Nat.reduceMod, Nat.reduceDiv, Nat.reduceEqDiff, Nat.reduceBEq, Nat.reduceLeDiff, ↓reduceIte, reduceCtorEq, Int.reduceAdd, Int.reduceSub, Int.reduceLT, Int.reduceLE, Int.reduceBEq, Int.reduceEq, Int.reduceToNat]; exact c4⟩⟩
      show Blk.get _ (o + 1 + 1) = _
      simp -implicitDefEqProofs (disch := (first | omega | (simp -implicitDefEqProofs only [szs, ne_eq] <;> omega) | fail)) only [go_sem, Nat.reduceAdd, Nat.reduceSub, Nat.reduceMul, Nat.reduceLT, Nat.reduceMod, Nat.reduceDiv, Nat.reduceEqDiff, Nat.reduceBEq, Nat.reduceLeDiff, ↓reduceIte, reduceCtorEq, Int.reduceAdd, Int.reduceSub, Int.reduceLT, Int.reduceLE, Int.reduceBEq, Int.reduceEq, Int.reduceToNat]; rfl
    simp -implicitDefEqProofs (disch := (first | omega | (simp -implicitDefEqProofs only [szs, ne_eq] <;> omega) | fail)) only [go_sem, Nat.reduceAdd, Nat.reduceSub, Nat.reduceMul, Nat.reduceLT, Nat.reduceMod, Nat.reduceDiv, Nat.reduceEqDiff, Nat.reduceBEq, Nat.reduceLeDiff, ↓reduceIte, reduceCtorEq, Int.reduceAdd, Int.reduceSub, Int.reduceLT, Int.reduceLE, Int.reduceBEq, Int.reduceEq, Int.reduceToNat, undefV, t1, t2, t3, hR, hW]
    exact ht1.fit t1 hok.1 (by rw [ho]; exact fit) (by rw [hT]; rfl)
  · have he' : (setE T s p rt != 0) = true := by simpa using he
    rw [rgtT, if_neg he]
    simp -implicitDefEqProofs (disch := (first | omega | (simp -implicitDefEqProofs only [szs, ne_eq] <;> omega) | fail)) only [go_sem, Nat.reduceAdd, Nat.reduceSub, Nat.reduceMul, Nat.reduceLT, Nat.reduceMod, Nat.reduceDiv, Nat.reduceEqDiff, Nat.reduceBEq, Nat.reduceLeDiff, ↓reduceIte, reduceCtorEq, Int.reduceAdd, Int.reduceSub, Int.reduceLT, Int.reduceLE, Int.reduceBEq, Int.reduceEq, Int.reduceToNat, undefV, he']
    exact ht1
set_option maxHeartbeats 2000000 in
theorem clean_ok {h : Heap} {R W : Set'} {tb r : Nat} {T : Tb} (ht : TabAt h tb r T) (hR : R tb) (hW : W tb) (s p : Int) :
    SF Try.prog 33 [.ptr (some (tb, 0)), .int .i64 s, .int .i64 p] h R W fun v h' => v = .tuple [(getC T s p).v, .int .i64 (setE T s p 0)] ∧ TabAt h' tb r (clnT T s p) := by
  have hlt := ht.lt
  refine SF.go hm Try.func33 ir33_eq ?_
  obtain ⟨h1, e1, n1, b1, k1⟩ : ∃ h1, h.push (O.cells (Blk.of [V.int IntKind.i64 0, V.int IntKind.i64 0, V.bool false, V.bool false]) 34) = h1 ∧ h1.n = h.n + 1 ∧ h1.get h.n = some (O.cells (Blk.of [V.int IntKind.i64 0, V.int IntKind.i64 0, V.bool false, V.bool false]) 34) ∧ ∀ b, b < h.n → h1.get b = h.get b := ⟨_, rfl, by simp, w_push_eq rfl _, fun b hb => w_push_ne (by omega) _⟩
  simp -implicitDefEqProofs (disch := (first | omega | (simp -implicitDefEqProofs only [szs, ne_eq] <;> omega) | fail)) only [go_sem, Nat.reduceAdd, Nat.reduceSub, Nat.reduceMul, Nat.reduceLT, Nat.reduceMod, Nat.reduceDiv, Nat.reduceEqDiff, Nat.reduceBEq, Nat.reduceLeDiff, ↓reduceIte, reduceCtorEq, Int.reduceAdd, Int.reduceSub, Int.reduceLT, Int.reduceLE, Int.reduceBEq, Int.reduceEq, Int.reduceToNat, ir33, e1]
  clear e1
  have ht1 := ht.old k1
  refine GCall.of (set_ok ht1 (.inr hR) s p 0) ?_
  rintro v h2 ⟨rfl, n2, k2⟩
  have ht2 := ht1.old k2
  obtain ⟨c, t1, t2, t3, t4, t5⟩ := ht2.t
  have b2 := (k2 h.n (by omega)).trans b1
  rcases set_get (T := T) (s := s) (p := p) with ⟨he, e, hg, hT, hok⟩ | ⟨he, hg⟩
  · have hp : setP T tb s p 0 = .ptr (some (tb, s.toNat * 160 + p.toNat * 5)) := if_pos ⟨okAt0.2 hok, by rw [hT]; rfl⟩
    have hs : s.toNat * 160 + p.toNat * 5 + 5 ≤ 2560 := by have h := hok; unfold okSP at h; omega
    have hcell := t4.at (okAt0.2 hok)
    rw [hT] at hcell
    rw [clnT, if_pos he, he, hp, hg, hT]
    obtain ⟨c0, c1, c2, c3, c4⟩ := hcell
    generalize ho : s.toNat * 160 + p.toNat * 5 = o at *
    have d2 : c.get (o + 1 + 1) = _ := c2
    have d3 : c.get (o + 1 + 2) = _ := c3
    have d4 : c.get (o + 1 + 3) = _ := c4
    have fit : Fit c ((c.set (o + 1 + 2) (.bool false)).set (o + 1 + 3) (.bool false)) o (some { e with t := false, w := false }) := by
      refine ⟨by simp -implicitDefEqProofs (disch := (first | omega | (simp -implicitDefEqProofs only [szs, ne_eq] <;> omega) | fail)) only [go_sem, Nat.reduceAdd, Nat.reduceSub, Nat.reduceMul, Nat.reduceLT, Nat.reduceMod, Nat.reduceDiv, Nat.reduceEqDiff, Nat.reduceBEq, Nat.reduceLeDiff, ↓reduceIte, reduceCtorEq, Int.reduceAdd, Int.reduceSub, Int.reduceLT, Int.reduceLE, Int.reduceBEq, Int.reduceEq, Int.reduceToNat], by simp -implicitDefEqProofs (disch := (first | omega | (simp -implicitDefEqProofs only [szs, ne_eq] <;> omega) | fail)) only [go_sem, Nat.reduceAdd, Nat.reduceSub, Nat.reduceMul, Nat.reduceLT, Nat.reduceMod, Nat.reduceDiv, Nat.reduceEqDiff, Nat.reduceBEq, Nat.reduceLeDiff, ↓reduceIte, reduceCtorEq, Int.reduceAdd, Int.reduceSub, Int.reduceLT, Int.reduceLE, Int.reduceBEq, Int.reduceEq, Int.reduceToNat, Blk.ro_set], fun i hi => by simp -implicitDefEqProofs (disch := (first | omega | (simp -implicitDefEqProofs only [szs, ne_eq] <;> omega) | fail)) only [go_sem, Nat.reduceAdd, Nat.reduceSub, Nat.reduceMul, Nat.reduceLT, Nat.reduceMod, Nat.reduceDiv, Nat.reduceEqDiff, Nat.reduceBEq, Nat.reduceLeDiff, ↓reduceIte, reduceCtorEq, Int.reduceAdd, Int.reduceSub, Int.reduceLT, Int.reduceLE, Int.reduceBEq, Int.reduceEq, Int.reduceToNat], ⟨by simp -implicitDefEqProofs (disch := (first | omega | (simp -implicitDefEqProofs only [szs, ne_eq] <;> omega) | fail)) only [go_sem, Nat.reduceAdd, Nat.reduceSub, Nat.reduceMul, Nat.reduceLT, Nat.reduceMod, Nat.reduceDiv, Nat.reduceEqDiff, Nat.reduceBEq, Nat.reduceLeDiff, ↓reduceIte, reduceCtorEq, Int.reduceAdd, Int.reduceSub, Int.reduceLT, Int.reduceLE, Int.reduceBEq, Int.reduceEq, Int.reduceToNat]; exact c0, by simp -implicitDefEqProofs (disch := (first | omega | (simp -implicitDefEqProofs only [szs, ne_eq] <;> omega) | fail)) only [go_sem, Nat.reduceAdd, Nat.reduceSub, Nat.reduceMul, Nat.reduceLT, Nat.reduceMod, Nat.reduceDiv, Nat.reduceEqDiff, Nat.reduceBEq, Nat.reduceLeDiff, ↓reduceIte, reduceCtorEq, Int.reduceAdd, Int.reduceSub, Int.reduceLT, Int.reduceLE, Int.reduceBEq, Int.reduceEq, Int.reduceToNat]; exact c1, by simp -implicitDefEqProofs (disch := (first | omega | (simp -implicitDefEqProofs only [szs, ne_eq] <;> omega) | fail)) only [go_sem, Nat.reduceAdd, Nat.reduceSub, Nat.reduceMul, Nat.reduceLT, Nat.reduceMod, Nat.reduceDiv, Nat.reduceEqDiff, Nat.reduceBEq, Nat.reduceLeDiff, ↓reduceIte, reduceCtorEq, Int.reduceAdd, Int.reduceSub, Int.reduceLT, Int.reduceLE, Int.reduceBEq, Int.reduceEq, Int.reduceToNat]; exact c2, ?_, ?_⟩⟩
      · show Blk.get _ (o + 1 + 2) = _
        simp -implicitDefEqProofs (disch := (first | omega | (simp -implicitDefEqProofs only [szs, ne_eq] <;> omega) | fail)) only [go_sem, Nat.reduceAdd, Nat.reduceSub, Nat.reduceMul, Nat.reduceLT, Nat.reduceMod, Nat.reduceDiv, Nat.reduceEqDiff, Nat.reduceBEq, Nat.reduceLeDiff, ↓reduceIte, reduceCtorEq, Int.reduceAdd, Int.reduceSub, Int.reduceLT, Int.reduceLE, Int.reduceBEq, Int.reduceEq, Int.reduceToNat]; rfl
      · show Blk.get _ (o + 1 + 3) = _
        simp -implicitDefEqProofs (disch := (first | omega | (simp -implicitDefEqProofs only [szs, ne_eq] <;> omega) | fail)) only [go_sem, Nat.reduceAdd, Nat.reduceSub, Nat.reduceMul, Nat.reduceLT, Nat.reduceMod, Nat.reduceDiv, Nat.reduceEqDiff, Nat.reduceBEq, Nat.reduceLeDiff, ↓reduceIte, reduceCtorEq, Int.reduceAdd, Int.reduceSub, Int.reduceLT, Int.reduceLE, Int.reduceBEq, Int.reduceEq, Int.reduceToNat]; rfl
    simp -implicitDefEqProofs (disch := (first | omega | (simp -implicitDefEqProofs only [szs, ne_eq] <;> omega) | fail)) only [go_sem, Nat.reduceAdd, Nat.reduceSub, Nat.reduceMul, Nat.reduceLT, Nat.reduceMod, Nat.reduceDiv, Nat.reduceEqDiff, Nat.reduceBEq, Nat.reduceLeDiff, ↓reduceIte, reduceCtorEq, Int.reduceAdd, Int.reduceSub, Int.reduceLT, Int.reduceLE, Int.reduceBEq, Int.reduceEq, Int.reduceToNat, undefV, t1, t2, t3, c1, c2, c3, c4, d2, d3, d4, hR, hW, b2, Ce.v]
    exact ⟨.inl (by omega), .inl (by omega), ht2.fit' t1 hok (by rw [ho]; exact fit) (by rw [hT]; rfl) (by simp -implicitDefEqProofs (disch := (first | omega | (simp -implicitDefEqProofs only [szs, ne_eq] <;> omega) | fail)) only [go_sem, Nat.reduceAdd, Nat.reduceSub, Nat.reduceMul, Nat.reduceLT, Nat.reduceMod, Nat.reduceDiv, Nat.reduceEqDiff, Nat.reduceBEq, Nat.reduceLeDiff, ↓reduceIte, reduceCtorEq, Int.reduceAdd, Int.reduceSub, Int.reduceLT, Int.reduceLE, Int.reduceBEq, Int.reduceEq, Int.reduceToNat]) (by simp -implicitDefEqProofs (disch := (first | omega | (simp -implicitDefEqProofs only [szs, ne_eq] <;> omega) | fail)) only [go_sem, Nat.reduceAdd, Nat.reduceSub, Nat.reduceMul, Nat.reduceLT, Nat.reduceMod, Nat.reduceDiv, Nat.reduceEqDiff, Nat.reduceBEq, Nat.reduceLeDiff, ↓reduceIte, reduceCtorEq, Int.reduceAdd, Int.reduceSub, Int.reduceLT, Int.reduceLE, Int.reduceBEq, Int.reduceEq, Int.reduceToNat])⟩
  · have he' : (setE T s p 0 != 0) = true := by simpa using he
    rw [clnT, if_neg he, hg]
    simp -implicitDefEqProofs (disch := (first | omega | (simp -implicitDefEqProofs only [szs, ne_eq] <;> omega) | fail)) only [go_sem, Nat.reduceAdd, Nat.reduceSub, Nat.reduceMul, Nat.reduceLT, Nat.reduceMod, Nat.reduceDiv, Nat.reduceEqDiff, Nat.reduceBEq, Nat.reduceLeDiff, ↓reduceIte, reduceCtorEq, Int.reduceAdd, Int.reduceSub, Int.reduceLT, Int.reduceLE, Int.reduceBEq, Int.reduceEq, Int.reduceToNat, undefV, he', b2, Ce.v]
    exact ⟨rfl, ht2.same fun b hb => w_set_ne (by omega) (by omega) _⟩
set_option maxHeartbeats 2000000 in
theorem clear_ok {h : Heap} {R W : Set'} {tb r : Nat} {T : Tb} (ht : TabAt h tb r T) (hR : ∀ b, b = tb ∨ b = r → R b) (hW : ∀ b, b = tb ∨ b = r → W b) (s p : Int) :
    SF Try.prog 28 [.ptr (some (tb, 0)), .int .i64 s, .int .i64 p] h R W fun v h' => v = .tuple [(getC T s p).v, .int .i64 (setE T s p 0)] ∧ TabAt h' tb r (clrT T s p) := by
  have hlt := ht.lt
  have hR1 := hR tb (.inl rfl)
  have hR2 := hR r (.inr rfl)
  have hW1 := hW tb (.inl rfl)
  have hW2 := hW r (.inr rfl)
  refine SF.go hm Try.func28 ir28_eq ?_
  obtain ⟨h1, e1, n1, b1, k1⟩ : ∃ h1, h.push (O.cells (Blk.of [V.int IntKind.i64 0, V.int IntKind.i64 0, V.bool false, V.bool false]) 34) = h1 ∧ h1.n = h.n + 1 ∧ h1.get h.n = some (O.cells (Blk.of [V.int IntKind.i64 0, V.int IntKind.i64 0, V.bool false, V.bool false]) 34) ∧ ∀ b, b < h.n → h1.get b = h.get b := ⟨_, rfl, by simp, w_push_eq rfl _, fun b hb => w_push_ne (by omega) _⟩
  simp -implicitDefEqProofs (disch := (first | omega | (simp -implicitDefEqProofs only [szs, ne_eq] <;> omega) | fail)) only [go_sem, Nat.reduceAdd, Nat.reduceSub, Nat.reduceMul, Nat.reduceLT, Nat.reduceMod, Nat.reduceDiv, Nat.reduceEqDiff, Nat.reduceBEq, Nat.reduceLeDiff, ↓reduceIte, reduceCtorEq, Int.reduceAdd, Int.reduceSub, Int.reduceLT, Int.reduceLE, Int.reduceBEq, Int.reduceEq, Int.reduceToNat, ir28, e1]
  clear e1
  have ht1 := ht.old k1
  refine GCall.of (set_ok ht1 (.inr hR1) s p 0) ?_
  rintro v h2 ⟨rfl, n2, k2⟩
  have ht2 := ht1.old k2
  obtain ⟨c, t1, t2, t3, t4, t5⟩ := ht2.t
  have b2 := (k2 h.n (by omega)).trans b1
  rcases set_get (T := T) (s := s) (p := p) with ⟨he, e, hg, hT, hok⟩ | ⟨he, hg⟩
  · have hp : setP T tb s p 0 = .ptr (some (tb, s.toNat * 160 + p.toNat * 5)) := if_pos ⟨okAt0.2 hok, by rw [hT]; rfl⟩
    have hs : s.toNat * 160 + p.toNat * 5 + 5 ≤ 2560 := by have h := hok; unfold okSP at h; omega
    have hcell := t4.at (okAt0.2 hok)
    rw [hT] at hcell
    rw [clrT, if_pos he, he, hp, hg]
    obtain ⟨c0, c1, c2, c3, c4⟩ := hcell
    generalize ho : s.toNat * 160 + p.toNat * 5 = o at *
    have d2 : c.get (o + 1 + 1) = _ := c2
    have d3 : c.get (o + 1 + 2) = _ := c3
    have d4 : c.get (o + 1 + 3) = _ := c4
    obtain ⟨c', hc'⟩ : ∃ c' : Blk, ((((c.set o (V.bool false)).set (o + 1) (V.int IntKind.i64 0)).set (o + 1 + 1) (V.int IntKind.i64 0)).set (o + 1 + 1 + 1) (V.bool false)).set (o + 1 + 1 + 1 + 1) (V.bool false) = c' := ⟨_, rfl⟩
    have fit : Fit c c' o none := by
      subst hc'
      refine ⟨by simp -implicitDefEqProofs (disch := (first | omega | (simp -implicitDefEqProofs only [szs, ne_eq] <;> omega) | fail)) only [go_sem, Nat.reduceAdd, Nat.reduceSub, Nat.reduceMul, Nat.reduceLT, Nat.reduceMod, Nat.reduceDiv, Nat.reduceEqDiff, Nat.reduceBEq, Nat.reduceLeDiff, ↓reduceIte, reduceCtorEq, Int.reduceAdd, Int.reduceSub, Int.reduceLT, Int.reduceLE, Int.reduceBEq, Int.reduceEq, Int.reduceToNat], by simp -implicitDefEqProofs (disch := (first | omega | (simp -implicitDefEqProofs only [szs, ne_eq] <;> omega) | fail)) only [go_sem, Nat.reduceAdd, Nat.reduceSub, Nat.reduceMul, Nat.reduceLT, Nat.reduceMod, Nat.reduceDiv, Nat.reduceEqDiff, Nat.reduceBEq, Nat.reduceLeDiff, ↓reduceIte, reduceCtorEq, Int.reduceAdd, Int.reduceSub, Int.reduceLT, Int.reduceLE, Int.reduceBEq, Int.reduceEq, Int.reduceToNat, Blk.ro_set], fun i hi => by simp -implicitDefEqProofs (disch := (first | omega | (simp -implicitDefEqProofs only [szs, ne_eq] <;> omega) | fail)) only [go_sem, Nat.reduceAdd, Nat.reduceSub, Nat.reduceMul, Nat.reduceLT, Nat.reduceMod, Nat.reduceDiv, Nat.reduceEqDiff, Nat.reduceBEq, Nat.reduceLeDiff, ↓reduceIte, reduceCtorEq, Int.reduceAdd, Int.reduceSub, Int.reduceLT, Int.reduceLE, Int.reduceBEq, Int.reduceEq, Int.reduceToNat], ⟨by simp -implicitDefEqProofs (disch := (first | omega | (simp -implicitDefEqProofs only [szs, ne_eq] <;> omega) | fail)) only [go_sem, Nat.reduceAdd, Nat.reduceSub, Nat.reduceMul, Nat.reduceLT, Nat.reduceMod, Nat.reduceDiv, Nat.reduceEqDiff, Nat.reduceBEq, Nat.reduceLeDiff, ↓reduceIte, reduceCtorEq, Int.reduceAdd, Int.reduceSub, Int.reduceLT, Int.reduceLE, Int.reduceBEq, Int.reduceEq, Int.reduceToNat]; rfl, by simp -implicitDefEqProofs (disch := (first | omega | (simp -implicitDefEqProofs only [szs, ne_eq] <;> omega) | fail)) only [go_sem, Nat.reduceAdd, Nat.reduceSub, Nat.reduceMul, Nat.reduceLT, Nat.reduceMod, Nat.reduceDiv, Nat.reduceEqDiff, Nat.reduceBEq, Nat.reduceLeDiff, ↓reduceIte, reduceCtorEq, Int.reduceAdd, Int.reduceSub, Int.reduceLT, Int.reduceLE, Int.reduceBEq, Int.reduceEq, Int.reduceToNat]; rfl, ?_, ?_, ?_⟩⟩
      · show Blk.get _ (o + 1 + 1) = _
        simp -implicitDefEqProofs (disch := (first | omega | (simp -implicitDefEqProofs only [szs, ne_eq] <;> omega) | fail)) only [go_sem, Nat.reduceAdd, Nat.reduceSub, Nat.reduceMul, Nat.reduceLT, Nat.reduceMod, Nat.reduceDiv, Nat.reduceEqDiff, Nat.reduceBEq, Nat.reduceLeDiff, ↓reduceIte, reduceCtorEq, Int.reduceAdd, Int.reduceSub, Int.reduceLT, Int.reduceLE, Int.reduceBEq, Int.reduceEq, Int.reduceToNat]; rfl
      · show Blk.get _ (o + 1 + 1 + 1) = _
        simp -implicitDefEqProofs (disch := (first | omega | (simp -implicitDefEqProofs only [szs, ne_eq] <;> omega) | fail)) only [go_sem, Nat.reduceAdd, Nat.reduceSub, Nat.reduceMul, Nat.reduceLT, Nat.reduceMod, Nat.reduceDiv, Nat.reduceEqDiff, Nat.reduceBEq, Nat.reduceLeDiff, ↓reduceIte, reduceCtorEq, Int.reduceAdd, Int.reduceSub, Int.reduceLT, Int.reduceLE, Int.reduceBEq, Int.reduceEq, Int.reduceToNat]; rfl
      · show Blk.get _ (o + 1 + 1 + 1 + 1) = _
        simp -implicitDefEqProofs (disch := (first | omega | (simp -implicitDefEqProofs only [szs, ne_eq] <;> omega) | fail)) only [go_sem, Nat.reduceAdd, Nat.reduceSub, Nat.reduceMul, Nat.reduceLT, Nat.reduceMod, Nat.reduceDiv, Nat.reduceEqDiff, Nat.reduceBEq, Nat.reduceLeDiff, ↓reduceIte, reduceCtorEq, Int.reduceAdd, Int.reduceSub, Int.reduceLT, Int.reduceLE, Int.reduceBEq, Int.reduceEq, Int.reduceToNat]; rfl
    obtain ⟨h3, e3, n3, b3, k3⟩ : ∃ h3, (h2.push (O.cells (Blk.of [V.int IntKind.i64 0, V.int IntKind.i64 0, V.bool false, V.bool false]) 34)).set h2.n (O.cells (((((Blk.of [V.int IntKind.i64 0, V.int IntKind.i64 0, V.bool false, V.bool false]).set 0 (V.int IntKind.i64 (Ce.f (some e)))).set 1 (V.int IntKind.i64 (Ce.r (some e)))).set 2 (V.bool (Ce.t (some e)))).set 3 (V.bool (Ce.w (some e)))) 34) = h3 ∧ h3.n = h2.n + 1 ∧
        (∃ d, h3.get h2.n = some (.cells d 34) ∧ d.size = 4 ∧ d.get 0 = .int .i64 (Ce.f (some e)) ∧ d.get 1 = .int .i64 (Ce.r (some e)) ∧ d.get 2 = .bool (Ce.t (some e)) ∧ d.get 3 = .bool (Ce.w (some e))) ∧ ∀ b, b < h2.n → h3.get b = h2.get b := ⟨_, rfl, by simp, ⟨_, w_set_eq (by simp) rfl _, rfl, by simp -implicitDefEqProofs (disch := (first | omega | (simp -implicitDefEqProofs only [szs, ne_eq] <;> omega) | fail)) only [go_sem, Nat.reduceAdd, Nat.reduceSub, Nat.reduceMul, Nat.reduceLT, Nat.reduceMod, Nat.reduceDiv, Nat.reduceEqDiff, Nat.reduceBEq, Nat.reduceLeDiff, ↓reduceIte, reduceCtorEq, Int.reduceAdd, Int.reduceSub, Int.reduceLT, Int.reduceLE, Int.reduceBEq, Int.reduceEq, Int.reduceToNat], by simp -implicitDefEqProofs (disch := (first | omega | (simp -implicitDefEqProofs only [szs, ne_eq] <;> omega) | fail)) only [go_sem, Nat.reduceAdd, Nat.reduceSub, Nat.reduceMul, Nat.reduceLT, Nat.reduceMod, Nat.reduceDiv, Nat.reduceEqDiff, Nat.reduceBEq, Nat.reduceLeDiff, ↓reduceIte, reduceCtorEq, Int.reduceAdd, Int.reduceSub, Int.reduceLT, Int.reduceLE, Int.reduceBEq, Int.reduceEq, Int.reduceToNat], by simp -implicitDefEqProofs (disch := (first | omega | (simp -implicitDefEqProofs only [szs, ne_eq] <;> omega) | fail)) only [go_sem, Nat.reduceAdd, Nat.reduceSub, Nat.reduceMul, Nat.reduceLT, Nat.reduceMod, Nat.reduceDiv, Nat.reduceEqDiff, Nat.reduceBEq, Nat.reduceLeDiff, ↓reduceIte, reduceCtorEq, Int.reduceAdd, Int.reduceSub, Int.reduceLT, Int.reduceLE, Int.reduceBEq, Int.reduceEq, Int.reduceToNat], by simp -implicitDefEqProofs (disch := (first | omega | (simp -implicitDefEqProofs only [szs, ne_eq] <;> omega) | fail)) only [go_sem, Nat.reduceAdd, Nat.reduceSub, Nat.reduceMul, Nat.reduceLT, Nat.reduceMod, Nat.reduceDiv, Nat.reduceEqDiff, Nat.reduceBEq, Nat.reduceLeDiff, ↓reduceIte, reduceCtorEq, Int.reduceAdd, Int.reduceSub, Int.reduceLT, Int.reduceLE, Int.reduceBEq, Int.reduceEq, Int.reduceToNat]⟩, fun b hb => by simp -implicitDefEqProofs (disch := (first | omega | (simp -implicitDefEqProofs only [szs, ne_eq] <;> omega) | fail)) only [go_sem, Nat.reduceAdd, Nat.reduceSub, Nat.reduceMul, Nat.reduceLT, Nat.reduceMod, Nat.reduceDiv, Nat.reduceEqDiff, Nat.reduceBEq, Nat.reduceLeDiff, ↓reduceIte, reduceCtorEq, Int.reduceAdd, Int.reduceSub, Int.reduceLT, Int.reduceLE, Int.reduceBEq, Int.reduceEq, Int.reduceToNat]⟩
    obtain ⟨d, b3, f1, f2, f3, f4, f5⟩ := b3
    have t1' := (k3 tb (by omega)).trans t1
    obtain ⟨es, ck, m1, m2, m3⟩ := ht2.m
    have hl1 := Heap.lt_of_get t1'
    obtain ⟨g, eg, gn, gt, gk⟩ : ∃ g, h3.set tb (O.cells c' 64) = g ∧ g.n = h3.n ∧ g.get tb = some (O.cells c' 64) ∧ ∀ b, b ≠ tb → g.get b = h3.get b := ⟨_, rfl, by simp, w_set_eq hl1 rfl _, fun b hb => w_set_ne hl1 hb _⟩
    have gr := (gk r (Ne.symm hlt.2.2)).trans ((k3 r (by omega)).trans m1)
    have gb := (gk h2.n (by omega)).trans b3
    have gh := (gk h.n (by omega)).trans ((k3 h.n (by omega)).trans b2)
    obtain ⟨es', hu, u1, u2, u3⟩ := del_pair (P := Try.prog) (t := 62) Try.underlying62 pk_50 gr m2 (s, p)
    have hu' : delV Try.prog 62 g (.map (some r)) (.agg [.int .i64 s, .int .i64 p]) = some ⟨undefV, g.set r (.map es' ck), [], [r]⟩ := hu
    have hcs : c'.size = 2561 := by rw [fit.size]; exact t2
    have hcg : c'.get 2560 = .map (some r) := by rw [fit.old _ (by omega)]; exact t5
    simp -implicitDefEqProofs (disch := (first | omega | (simp -implicitDefEqProofs only [szs, ne_eq] <;> omega) | fail)) only [go_sem, Nat.reduceAdd, Nat.reduceSub, Nat.reduceMul, Nat.reduceLT, Nat.reduceMod, Nat.reduceDiv, Nat.reduceEqDiff, Nat.reduceBEq, Nat.reduceLeDiff, ↓reduceIte, reduceCtorEq, Int.reduceAdd, Int.reduceSub, Int.reduceLT, Int.reduceLE, Int.reduceBEq, Int.reduceEq, Int.reduceToNat, undefV, t1, t2, t3, c1, c2, c3, c4, d2, d3, d4, hR1, hW1, e3, t1', hc', eg, gt, hcs, hcg, hu', hW2, gb, gh, f1, f2, f3, f4, f5, Ce.v]
    refine ⟨.inl (by omega), .inl (by omega), ht2.fitm (c' := c') t1 hok (by rw [ho]; exact fit) (by simp -implicitDefEqProofs (disch := (first | omega | (simp -implicitDefEqProofs only [szs, ne_eq] <;> omega) | fail)) only [go_sem, Nat.reduceAdd, Nat.reduceSub, Nat.reduceMul, Nat.reduceLT, Nat.reduceMod, Nat.reduceDiv, Nat.reduceEqDiff, Nat.reduceBEq, Nat.reduceLeDiff, ↓reduceIte, reduceCtorEq, Int.reduceAdd, Int.reduceSub, Int.reduceLT, Int.reduceLE, Int.reduceBEq, Int.reduceEq, Int.reduceToNat, gt]) (by simp -implicitDefEqProofs (disch := (first | omega | (simp -implicitDefEqProofs only [szs, ne_eq] <;> omega) | fail)) only [go_sem, Nat.reduceAdd, Nat.reduceSub, Nat.reduceMul, Nat.reduceLT, Nat.reduceMod, Nat.reduceDiv, Nat.reduceEqDiff, Nat.reduceBEq, Nat.reduceLeDiff, ↓reduceIte, reduceCtorEq, Int.reduceAdd, Int.reduceSub, Int.reduceLT, Int.reduceLE, Int.reduceBEq, Int.reduceEq, Int.reduceToNat]) u1 fun es2 ck2 he2 k => ?_⟩
    rw [m1] at he2; cases he2
    exact u2 k
  · have he' : (setE T s p 0 != 0) = true := by simpa using he
    rw [clrT, if_neg he, hg]
    simp -implicitDefEqProofs (disch := (first | omega | (simp -implicitDefEqProofs only [szs, ne_eq] <;> omega) | fail)) only [go_sem, Nat.reduceAdd, Nat.reduceSub, Nat.reduceMul, Nat.reduceLT, Nat.reduceMod, Nat.reduceDiv, Nat.reduceEqDiff, Nat.reduceBEq, Nat.reduceLeDiff, ↓reduceIte, reduceCtorEq, Int.reduceAdd, Int.reduceSub, Int.reduceLT, Int.reduceLE, Int.reduceBEq, Int.reduceEq, Int.reduceToNat, undefV, he', b2, Ce.v]
    exact ⟨rfl, ht2.same fun b hb => w_set_ne (by omega) (by omega) _⟩
def andN (a b : Int) : Int := IntKind.i64.wrap (BitVec.ofInt 64 a &&& BitVec.ofInt 64 b).toNat
theorem andN_op (a b : Int) : intBin .and .i64 a b = some (.int .i64 (andN a b)) := rfl
theorem cv28 {M : MP} {R W : Set'} {tm : Tm} {h : Heap} {K : V → Heap → Prop} (x : Operand) : LOp M R W tm h (.convert 28 3 x) K = onO (evV tm x) fun a => onO (convV M.P 28 3 a h) fun r => allB R r.2 ∧ K r.1 h := by
  apply LOp_convert; decide
theorem c28 (h : Heap) (n : Int) : convV Try.prog 28 3 (.int .u32 n) h = some (.int .i64 (IntKind.i64.wrap n), []) := by simp only [convV, Try.underlying28, Try.underlying3]
theorem shr8 {a : Int} (ha : 0 ≤ a) : intShift .shr .u32 a 8 = some (.int .u32 (a / 256)) := by
  have h : Int.fdiv a 256 = a / 256 := Int.fdiv_eq_ediv_of_nonneg _ (by omega)
  unfold intShift
  simp only [show ¬ ((8 : Int) < 0) by omega, if_false]
  exact congrArg (fun x => some (V.int .u32 x)) h
theorem and255 {a : Int} (ha : 0 ≤ a ∧ a ≤ 4294967295) : intBin .and .u32 a 255 = some (.int .u32 (a % 256)) := by
  obtain ⟨n, rfl⟩ : ∃ n : Nat, a = n := ⟨a.toNat, by omega⟩
  have h : (BitVec.ofInt 32 (n : Int) &&& BitVec.ofInt 32 255).toNat = n % 256 := by
    rw [BitVec.ofInt_natCast, show BitVec.ofInt 32 255 = BitVec.ofNat 32 255 from rfl, BitVec.toNat_and, BitVec.toNat_ofNat, BitVec.toNat_ofNat, Nat.mod_eq_of_lt (a := n) (by omega)]
    exact Nat.and_two_pow_sub_one_eq_mod n 8
  show some (V.int .u32 (IntKind.u32.wrap ((BitVec.ofInt 32 (n : Int) &&& BitVec.ofInt 32 255).toNat : Int))) = _
  rw [h]
  have e : ((n % 256 : Nat) : Int) = (n : Int) % 256 := by omega
  rw [e]
  have : IntKind.u32.wrap ((n : Int) % 256) = (n : Int) % 256 := by
    simp [IntKind.wrap, IntKind.bits, IntKind.signed]; omega
  rw [this]
def okR (x : Int) : Prop := x = 1 ∨ x = 2 ∨ x = 4
instance (x : Int) : Decidable (okR x) := by unfold okR; infer_instance
/-- What Ask answers, and leaves. -/
def askM (x : Ce) (rt : Int) : Int := match x with
  | none => 10
  | some e => if andN e.r rt = 0 then 8 else 0
def askE (T : Tb) (s a rt : Int) : Int := if ¬ (okS s ∧ okR rt) then 2 else askM (getC T s (a / 256)) rt
def askF (T : Tb) (s a rt : Int) : Int := if askE T s a rt = 0 then (getC T s (a / 256)).f else 0
def askO (T : Tb) (s a rt : Int) : Int := if askE T s a rt = 0 then a % 256 else 0
def askT (T : Tb) (s a rt : Int) : Tb := if askE T s a rt = 0 then T.upd s.toNat (a / 256).toNat ((getC T s (a / 256)).map fun e => { e with t := true, w := e.w || decide (rt = 2) }) else T
set_option maxHeartbeats 2000000 in
theorem ask_ok {h : Heap} {R W : Set'} {tb r : Nat} {T : Tb} (ht : TabAt h tb r T) (hR : R tb) (hW : W tb) (s a rt : Int) (ha : 0 ≤ a ∧ a ≤ 4294967295) :
    SF Try.prog 17 [.ptr (some (tb, 0)), .int .i64 s, .int .u32 a, .int .i64 rt] h R W fun v h' => v = .tuple [.int .i64 (askF T s a rt), .int .i64 (askO T s a rt), .int .i64 (askE T s a rt)] ∧ TabAt h' tb r (askT T s a rt) := by
  have hlt := ht.lt
  refine SF.go hm Try.func17 ir17_eq ?_
  simp -implicitDefEqProofs (disch := (first | omega | (simp -implicitDefEqProofs only [szs, ne_eq] <;> omega) | fail)) only [go_sem, Nat.reduceAdd, Nat.reduceSub, Nat.reduceMul, Nat.reduceLT, Nat.reduceMod, Nat.reduceDiv, Nat.reduceEqDiff, Nat.reduceBEq, Nat.reduceLeDiff, ↓reduceIte, reduceCtorEq, Int.reduceAdd, Int.reduceSub, Int.reduceLT, Int.reduceLE, Int.reduceBEq, Int.reduceEq, Int.reduceToNat, ir17]
  refine GCall.of (there_ok ht (.inr hR)) ?_
  rintro v h1 ⟨rfl, rfl⟩
  simp -implicitDefEqProofs (disch := (first | omega | (simp -implicitDefEqProofs only [szs, ne_eq] <;> omega) | fail)) only [go_sem, Nat.reduceAdd, Nat.reduceSub, Nat.reduceMul, Nat.reduceLT, Nat.reduceMod, Nat.reduceDiv, Nat.reduceEqDiff, Nat.reduceBEq, Nat.reduceLeDiff, ↓reduceIte, reduceCtorEq, Int.reduceAdd, Int.reduceSub, Int.reduceLT, Int.reduceLE, Int.reduceBEq, Int.reduceEq, Int.reduceToNat, undefV]
  refine GCall.of (space1_ok s (.inl (Nat.le_refl _))) ?_
  rintro v h2 ⟨rfl, rfl⟩
  obtain ⟨h1', e1, n1, k1⟩ : ∃ g, h1.push (O.cells (Blk.of [V.int IntKind.i64 s]) 3) = g ∧ g.n = h1.n + 1 ∧ ∀ b, b < h1.n → g.get b = h1.get b := ⟨_, rfl, by simp, fun b hb => w_push_ne (by omega) _⟩
  have ht1 := ht.old k1
  rw [e1]
  clear e1
  have bad : ¬ (okS s ∧ okR rt) → askE T s a rt = 2 := fun h => if_pos h
  by_cases hs : okS s
  · rw [decide_eq_true hs]
    by_cases hr : okR rt
    · have ha1 : 0 ≤ a / 256 ∧ a / 256 ≤ 16777215 := by omega
      have key : ∃ x1 x2 x4 : Bool, (rt != 1) = x1 ∧ (rt != 2) = x2 ∧ (rt != 4) = x4 ∧ (x1 = false ∨ x1 = true ∧ x2 = false ∨ x1 = true ∧ x2 = true ∧ x4 = false) := by
        refine ⟨_, _, _, rfl, rfl, rfl, ?_⟩
        rcases hr with rfl | rfl | rfl
        · exact .inl rfl
        · exact .inr (.inl ⟨rfl, rfl⟩)
        · exact .inr (.inr ⟨rfl, rfl, rfl⟩)
      obtain ⟨x1, x2, x4, q1, q2, q4, hx⟩ := key
      have hb2 : (rt == 2) = decide (rt = 2) := by by_cases e : rt = 2 <;> simp [e]
      rcases hx with rfl | ⟨rfl, rfl⟩ | ⟨rfl, rfl, rfl⟩
      all_goals
        simp -implicitDefEqProofs (disch := (first | omega | (simp -implicitDefEqProofs only [szs, ne_eq] <;> omega) | fail)) only [go_sem, Nat.reduceAdd, Nat.reduceSub, Nat.reduceMul, Nat.reduceLT, Nat.reduceMod, Nat.reduceDiv, Nat.reduceEqDiff, Nat.reduceBEq, Nat.reduceLeDiff, ↓reduceIte, reduceCtorEq, Int.reduceAdd, Int.reduceSub, Int.reduceLT, Int.reduceLE, Int.reduceBEq, Int.reduceEq, Int.reduceToNat, undefV, q1, q2, q4, ↓shr8 ha.1, ↓cv28, ↓c28]
        refine GCall.of (set_ok ht1 (.inr hR) s (a / 256) 0) ?_
        rintro v h2 ⟨rfl, n2, k2⟩
        have ht2 := ht1.old k2
        obtain ⟨c, t1, t2, t3, t4, t5⟩ := ht2.t
        rcases set_get (T := T) (s := s) (p := a / 256) with ⟨he, e, hg, hT, hok⟩ | ⟨he, hg⟩
        · have hp : setP T tb s (a / 256) 0 = .ptr (some (tb, s.toNat * 160 + (a / 256).toNat * 5)) := if_pos ⟨okAt0.2 hok, by rw [hT]; rfl⟩
          have hl : s.toNat * 160 + (a / 256).toNat * 5 + 5 ≤ 2560 := by have h := hok; unfold okSP at h; omega
          have hcell := t4.at (okAt0.2 hok)
          rw [hT] at hcell
          obtain ⟨c0, c1, c2, c3, c4⟩ := hcell
          rw [he, hp]
          by_cases hz : andN e.r rt = 0
          · have ee : askE T s a rt = 8 := by rw [askE, if_neg (fun h => h ⟨hs, hr⟩), hg]; exact if_pos hz
            rw [askF, askO, askT, ee]
            generalize ho : s.toNat * 160 + (a / 256).toNat * 5 = o at *
            have d2 : c.get (o + 1 + 1) = _ := c2
            have hz' : andN (Ce.r (some e)) rt = 0 := hz
            simp -implicitDefEqProofs (disch := (first | omega | (simp -implicitDefEqProofs only [szs, ne_eq] <;> omega) | fail)) only [go_sem, Nat.reduceAdd, Nat.reduceSub, Nat.reduceMul, Nat.reduceLT, Nat.reduceMod, Nat.reduceDiv, Nat.reduceEqDiff, Nat.reduceBEq, Nat.reduceLeDiff, ↓reduceIte, reduceCtorEq, Int.reduceAdd, Int.reduceSub, Int.reduceLT, Int.reduceLE, Int.reduceBEq, Int.reduceEq, Int.reduceToNat, undefV, t1, t2, d2, hR, ↓andN_op, hz']
            exact ht2
          · have ee : askE T s a rt = 0 := by rw [askE, if_neg (fun h => h ⟨hs, hr⟩), hg]; exact if_neg hz
            rw [askF, askO, askT, ee, if_pos rfl, if_pos rfl, if_pos rfl, hg]
            generalize ho : s.toNat * 160 + (a / 256).toNat * 5 = o at *
            have d2 : c.get (o + 1 + 1) = _ := c2
            have d3 : c.get (o + 1 + 2) = _ := c3
            have d4 : c.get (o + 1 + 3) = _ := c4
            have hz2 : ¬ andN (Ce.r (some e)) rt = 0 := hz
            have hz' : (andN (Ce.r (some e)) rt == 0) = false := by simpa using hz2
            have fit : Fit c ((c.set (o + 1 + 2) (.bool true)).set (o + 1 + 3) (.bool (e.w || decide (rt = 2)))) o (some { e with t := true, w := e.w || decide (rt = 2) }) := by
              refine ⟨by simp -implicitDefEqProofs (disch := (first | omega | (simp -implicitDefEqProofs only [szs, ne_eq] <;> omega) | fail)) only [go_sem, Nat.reduceAdd, Nat.reduceSub, Nat.reduceMul, Nat.reduceLT, Nat.reduceMod, Nat.reduceDiv, Nat.reduceEqDiff, Nat.reduceBEq, Nat.reduceLeDiff, ↓reduceIte, reduceCtorEq, Int.reduceAdd, Int.reduceSub, Int.reduceLT, Int.reduceLE, Int.reduceBEq, Int.reduceEq, Int.reduceToNat], by simp -implicitDefEqProofs (disch := (first | omega | (simp -implicitDefEqProofs only [szs, ne_eq] <;> omega) | fail)) only [go_sem, Nat.reduceAdd, Nat.reduceSub, Nat.reduceMul, Nat.reduceLT, Nat.reduceMod, Nat.reduceDiv, Nat.reduceEqDiff, Nat.reduceBEq, Nat.reduceLeDiff, ↓reduceIte, reduceCtorEq, Int.reduceAdd, Int.reduceSub, Int.reduceLT, Int.reduceLE, Int.reduceBEq, Int.reduceEq, Int.reduceToNat, Blk.ro_set], fun i hi => by simp -implicitDefEqProofs (disch := (first | omega | (simp -implicitDefEqProofs only [szs, ne_eq] <;> omega) | fail)) only [go_sem, Nat.reduceAdd, Nat.reduceSub, Nat.reduceMul, Nat.reduceLT, Nat.reduceMod, Nat.reduceDiv, Nat.reduceEqDiff, Nat.reduceBEq, Nat.reduceLeDiff, ↓reduceIte, reduceCtorEq, Int.reduceAdd, Int.reduceSub, Int.reduceLT, Int.reduceLE, Int.reduceBEq, Int.reduceEq, Int.reduceToNat], ⟨by simp -implicitDefEqProofs (disch := (first | omega | (simp -implicitDefEqProofs only [szs, ne_eq] <;> omega) | fail)) only [go_sem, Nat.reduceAdd, Nat.reduceSub, Nat.reduceMul, Nat.reduceLT, Nat.reduceMod, Nat.reduceDiv, Nat.reduceEqDiff, Nat.reduceBEq, Nat.reduceLeDiff, ↓reduceIte, reduceCtorEq, Int.reduceAdd, Int.reduceSub, Int.reduceLT, Int.reduceLE, Int.reduceBEq, Int.reduceEq, Int.reduceToNat]; exact c0, by simp -implicitDefEqProofs (disch := (first | omega | (simp -implicitDefEqProofs only [szs, ne_eq] <;> omega) | fail)) only [go_sem, Nat.reduceAdd, Nat.reduceSub, Nat.reduceMul, Nat.reduceLT, Nat.reduceMod, Nat.reduceDiv, Nat.reduceEqDiff, Nat.reduceBEq, Nat.reduceLeDiff, ↓reduceIte, reduceCtorEq, Int.reduceAdd, Int.reduceSub, Int.reduceLT, Int.reduceLE, Int.reduceBEq, Int.reduceEq, Int.reduceToNat]; exact c1, by simp -implicitDefEqProofs (disch := (first | omega | (simp -implicitDefEqProofs only [szs, ne_eq] <;> omega) | fail)) only [go_sem, Nat.reduceAdd, Nat.reduceSub, Nat.reduceMul, Nat.reduceLT, Nat.reduceMod, Nat.reduceDiv, Nat.reduceEqDiff, Nat.reduceBEq, Nat.reduceLeDiff, ↓reduceIte, reduceCtorEq, Int.reduceAdd, Int.reduceSub, Int.reduceLT, Int.reduceLE, Int.reduceBEq, Int.reduceEq, Int.reduceToNat]; exact c2, ?_, ?_⟩⟩
              · show Blk.get _ (o + 1 + 2) = _
                simp -implicitDefEqProofs (disch := (first | omega | (simp -implicitDefEqProofs only [szs, ne_eq] <;> omega) | fail)) only [go_sem, Nat.reduceAdd, Nat.reduceSub, Nat.reduceMul, Nat.reduceLT, Nat.reduceMod, Nat.reduceDiv, Nat.reduceEqDiff, Nat.reduceBEq, Nat.reduceLeDiff, ↓reduceIte, reduceCtorEq, Int.reduceAdd, Int.reduceSub, Int.reduceLT, Int.reduceLE, Int.reduceBEq, Int.reduceEq, Int.reduceToNat]; rfl
              · show Blk.get _ (o + 1 + 3) = _
                simp -implicitDefEqProofs (disch := (first | omega | (simp -implicitDefEqProofs only [szs, ne_eq] <;> omega) | fail)) only [go_sem, Nat.reduceAdd, Nat.reduceSub, Nat.reduceMul, Nat.reduceLT, Nat.reduceMod, Nat.reduceDiv, Nat.reduceEqDiff, Nat.reduceBEq, Nat.reduceLeDiff, ↓reduceIte, reduceCtorEq, Int.reduceAdd, Int.reduceSub, Int.reduceLT, Int.reduceLE, Int.reduceBEq, Int.reduceEq, Int.reduceToNat]; rfl
            have fin : ∀ g : Heap, g.get tb = some (.cells ((c.set (o + 1 + 2) (.bool true)).set (o + 1 + 3) (.bool (e.w || decide (rt = 2)))) 64) → g.get r = h2.get r → TabAt g tb r (T.upd s.toNat (a / 256).toNat ((some e).map fun e => { e with t := true, w := e.w || decide (rt = 2) })) := fun g g1 g2 =>
              ht2.fit' t1 hok (by rw [ho]; exact fit) (by rw [hT]; rfl) g1 g2
            have hw : Ce.w (some e) = e.w := rfl
            have hff : Ce.f (some e) = e.f := rfl
            cases hew : e.w with
            | true =>
              rw [hew] at fin hw
              rw [hw] at d4
              rw [Bool.true_or] at fin
              simp -implicitDefEqProofs (disch := (first | omega | (simp -implicitDefEqProofs only [szs, ne_eq] <;> omega) | fail)) only [go_sem, Nat.reduceAdd, Nat.reduceSub, Nat.reduceMul, Nat.reduceLT, Nat.reduceMod, Nat.reduceDiv, Nat.reduceEqDiff, Nat.reduceBEq, Nat.reduceLeDiff, ↓reduceIte, reduceCtorEq, Int.reduceAdd, Int.reduceSub, Int.reduceLT, Int.reduceLE, Int.reduceBEq, Int.reduceEq, Int.reduceToNat, undefV, t1, t2, t3, c1, d2, d3, d4, hR, hW, ↓andN_op, hz', ↓and255 ha, ↓cv28, ↓c28, hff]
              exact fin _ (by simp -implicitDefEqProofs (disch := (first | omega | (simp -implicitDefEqProofs only [szs, ne_eq] <;> omega) | fail)) only [go_sem, Nat.reduceAdd, Nat.reduceSub, Nat.reduceMul, Nat.reduceLT, Nat.reduceMod, Nat.reduceDiv, Nat.reduceEqDiff, Nat.reduceBEq, Nat.reduceLeDiff, ↓reduceIte, reduceCtorEq, Int.reduceAdd, Int.reduceSub, Int.reduceLT, Int.reduceLE, Int.reduceBEq, Int.reduceEq, Int.reduceToNat]) (by simp -implicitDefEqProofs (disch := (first | omega | (simp -implicitDefEqProofs only [szs, ne_eq] <;> omega) | fail)) only [go_sem, Nat.reduceAdd, Nat.reduceSub, Nat.reduceMul, Nat.reduceLT, Nat.reduceMod, Nat.reduceDiv, Nat.reduceEqDiff, Nat.reduceBEq, Nat.reduceLeDiff, ↓reduceIte, reduceCtorEq, Int.reduceAdd, Int.reduceSub, Int.reduceLT, Int.reduceLE, Int.reduceBEq, Int.reduceEq, Int.reduceToNat])
            | false =>
              rw [hew] at fin hw
              rw [hw] at d4
              rw [Bool.false_or] at fin
              simp -implicitDefEqProofs (disch := (first | omega | (simp -implicitDefEqProofs only [szs, ne_eq] <;> omega) | fail)) only [go_sem, Nat.reduceAdd, Nat.reduceSub, Nat.reduceMul, Nat.reduceLT, Nat.reduceMod, Nat.reduceDiv, Nat.reduceEqDiff, Nat.reduceBEq, Nat.reduceLeDiff, ↓reduceIte, reduceCtorEq, Int.reduceAdd, Int.reduceSub, Int.reduceLT, Int.reduceLE, Int.reduceBEq, Int.reduceEq, Int.reduceToNat, undefV, t1, t2, t3, c1, d2, d3, d4, hR, hW, ↓andN_op, hz', ↓and255 ha, ↓cv28, ↓c28, hff, hb2]
              exact fin _ (by simp -implicitDefEqProofs (disch := (first | omega | (simp -implicitDefEqProofs only [szs, ne_eq] <;> omega) | fail)) only [go_sem, Nat.reduceAdd, Nat.reduceSub, Nat.reduceMul, Nat.reduceLT, Nat.reduceMod, Nat.reduceDiv, Nat.reduceEqDiff, Nat.reduceBEq, Nat.reduceLeDiff, ↓reduceIte, reduceCtorEq, Int.reduceAdd, Int.reduceSub, Int.reduceLT, Int.reduceLE, Int.reduceBEq, Int.reduceEq, Int.reduceToNat]) (by simp -implicitDefEqProofs (disch := (first | omega | (simp -implicitDefEqProofs only [szs, ne_eq] <;> omega) | fail)) only [go_sem, Nat.reduceAdd, Nat.reduceSub, Nat.reduceMul, Nat.reduceLT, Nat.reduceMod, Nat.reduceDiv, Nat.reduceEqDiff, Nat.reduceBEq, Nat.reduceLeDiff, ↓reduceIte, reduceCtorEq, Int.reduceAdd, Int.reduceSub, Int.reduceLT, Int.reduceLE, Int.reduceBEq, Int.reduceEq, Int.reduceToNat])
        · have he' : (setE T s (a / 256) 0 != 0) = true := by simpa using he
          have ee : askE T s a rt = 10 := by rw [askE, if_neg (fun h => h ⟨hs, hr⟩), hg]; rfl
          rw [askF, askO, askT, ee]
          simp -implicitDefEqProofs (disch := (first | omega | (simp -implicitDefEqProofs only [szs, ne_eq] <;> omega) | fail)) only [go_sem, Nat.reduceAdd, Nat.reduceSub, Nat.reduceMul, Nat.reduceLT, Nat.reduceMod, Nat.reduceDiv, Nat.reduceEqDiff, Nat.reduceBEq, Nat.reduceLeDiff, ↓reduceIte, reduceCtorEq, Int.reduceAdd, Int.reduceSub, Int.reduceLT, Int.reduceLE, Int.reduceBEq, Int.reduceEq, Int.reduceToNat, undefV, he']
          exact ht2
    · have e := bad (fun h => hr h.2)
      have hn1 : (rt != 1) = true := by simpa using fun e => hr (.inl e)
      have hn2 : (rt != 2) = true := by simpa using fun e => hr (.inr (.inl e))
      have hn4 : (rt != 4) = true := by simpa using fun e => hr (.inr (.inr e))
      rw [askF, askO, askT, e]
      simp -implicitDefEqProofs (disch := (first | omega | (simp -implicitDefEqProofs only [szs, ne_eq] <;> omega) | fail)) only [go_sem, Nat.reduceAdd, Nat.reduceSub, Nat.reduceMul, Nat.reduceLT, Nat.reduceMod, Nat.reduceDiv, Nat.reduceEqDiff, Nat.reduceBEq, Nat.reduceLeDiff, ↓reduceIte, reduceCtorEq, Int.reduceAdd, Int.reduceSub, Int.reduceLT, Int.reduceLE, Int.reduceBEq, Int.reduceEq, Int.reduceToNat, undefV, hn1, hn2, hn4]
      exact ht1
  · rw [decide_eq_false hs]
    have e := bad (fun h => hs h.1)
    rw [askF, askO, askT, e]
    simp -implicitDefEqProofs (disch := (first | omega | (simp -implicitDefEqProofs only [szs, ne_eq] <;> omega) | fail)) only [go_sem, Nat.reduceAdd, Nat.reduceSub, Nat.reduceMul, Nat.reduceLT, Nat.reduceMod, Nat.reduceDiv, Nat.reduceEqDiff, Nat.reduceBEq, Nat.reduceLeDiff, ↓reduceIte, reduceCtorEq, Int.reduceAdd, Int.reduceSub, Int.reduceLT, Int.reduceLE, Int.reduceBEq, Int.reduceEq, Int.reduceToNat, undefV]
    exact ht1
end Go.Proofs.Ytkfhdaimememiaa
