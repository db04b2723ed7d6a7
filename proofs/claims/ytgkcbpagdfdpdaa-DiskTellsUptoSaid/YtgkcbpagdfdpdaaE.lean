/- A disk: Same. -/
import Derived.Test.YtgkcbpagdfdpdaaD
set_option linter.unusedVariables false
set_option linter.unusedSimpArgs false
set_option linter.unusedSimpArgs false
set_option maxRecDepth 100000
set_option linter.unusedVariables false
set_option linter.unusedSimpArgs false
namespace Go.Vm
theorem getI_of_mem : ∀ {es : Ents} {e : V × V × Nat}, (es.map fun e => keyI e.1).Nodup → e ∈ es → getI es (keyI e.1) = some e.2.1
  | [], e, _, h => by cases h
  | a :: r, e, hn, h => by
    simp only [List.map_cons, List.nodup_cons] at hn
    rcases List.mem_cons.1 h with rfl | h
    · rw [getI_hit _ rfl]
    · rw [getI_miss _ fun e1 => hn.1 (by rw [e1]; exact List.mem_map.2 ⟨e, h, rfl⟩)]
      exact getI_of_mem hn.2 h
theorem look_int2 {P : Program} {t kt et : TypeId} {z : V} (ht : P.underlying t = some (.map kt et)) (hu : P.underlying kt = some (.int .i64)) (hz : zeroV P et = some z) {h : Heap} {r : Nat} {es : Ents} {ck : Nat} (hr : h.get r = some (.map es ck)) (hm : IMap es ck) (k : Int) :
    lookV P t h (.map (some r)) (.int .i64 k) true = some (.tuple [(getI es k).getD z, .bool (getI es k).isSome], [r]) := by
  have hk : keyOk P 10 kt (.int .i64 k) = true := by simp [keyOk, hu]
  simp only [lookV, ht, hu, hk, hz, hr]
  cases hg : getI es k with
  | none => rw [findV_none hu hm.ints hg]; rfl
  | some v =>
    obtain ⟨j, e, _, _, _, hf⟩ := findV_some (i := 0) hu hm.ints hg
    rw [hf]; rfl
theorem nodup_len {α : Type} [DecidableEq α] : ∀ {l m : List α}, l.Nodup → (∀ a ∈ l, a ∈ m) → l.length ≤ m.length
  | [], m, _, _ => Nat.zero_le _
  | a :: l, m, h, hs => by
    rw [List.nodup_cons] at h
    have ha := hs a (by simp)
    have := nodup_len (l := l) (m := m.erase a) h.2 fun b hb => (List.mem_erase_of_ne (fun e => by subst e; exact h.1 hb)).2 (hs b (by simp [hb]))
    rw [List.length_erase_of_mem ha] at this
    have := List.length_pos_of_mem ha
    simp; omega
end Go.Vm
namespace Go.Proofs.Ytgkcbpagdfdpdaa
open Go Go.Vm
attribute [-go_sem] sz_67
theorem PendAt.mem {h : Heap} {bd : Nat} {L : DL} {D : DS} {es : Ents} {ck : Nat} (hp : PendAt h bd L D es) (hi : IMap es ck) {e : V × V × Nat} (he : e ∈ es) : ∃ x : Nat, e.1 = .int .i64 x ∧ D.pe x ≠ [] ∧ e.2.1 = .slice (some (L.pb x, 0)) (D.pe x).length (D.pe x).length false := by
  obtain ⟨k, hk⟩ := hi.ints e he
  have hg := getI_of_mem hi.keys he
  rw [hk, show keyI (V.int .i64 k) = k from rfl] at hg
  by_cases h0 : k < 0
  · rw [hp.neg k h0] at hg; cases hg
  · obtain ⟨x, rfl⟩ := Int.eq_ofNat_of_zero_le (Int.not_lt.1 h0)
    rw [hp.has] at hg
    split at hg
    · cases hg
    · rename_i hne
      exact ⟨x, hk, hne, by simpa using hg.symm⟩
theorem PendAt.key {h : Heap} {bd : Nat} {L : DL} {D : DS} {es : Ents} {ck : Nat} (hp : PendAt h bd L D es) (hi : IMap es ck) (x : Nat) : (x : Int) ∈ (es.map fun e => keyI e.1) ↔ D.pe x ≠ [] := by
  constructor
  · intro hm
    obtain ⟨e, he, hx⟩ := List.mem_map.1 hm
    obtain ⟨y, e1, e2, _⟩ := hp.mem hi he
    rw [e1] at hx
    have : (y : Int) = x := hx
    have : y = x := by omega
    subst this; exact e2
  · intro hne
    have := hp.has x
    rw [if_neg hne] at this
    obtain ⟨e, he, hk⟩ := getI_mem this
    exact List.mem_map.2 ⟨e, he, hk⟩
theorem pend_len {h : Heap} {b1 b2 : Nat} {L1 L2 : DL} {D1 D2 : DS} {es1 es2 : Ents} {c1 c2 : Nat} (hp1 : PendAt h b1 L1 D1 es1) (hi1 : IMap es1 c1) (hp2 : PendAt h b2 L2 D2 es2) (hi2 : IMap es2 c2) (hs : ∀ x, D1.pe x ≠ [] → D2.pe x ≠ []) : es1.length ≤ es2.length ∧ ∀ x, D1.pe x = [] → D2.pe x ≠ [] → es1.length < es2.length := by
  have hsub : ∀ a ∈ (es1.map fun e => keyI e.1), a ∈ (es2.map fun e => keyI e.1) := by
    intro a ha
    obtain ⟨e, he, rfl⟩ := List.mem_map.1 ha
    obtain ⟨x, e1, e2, _⟩ := hp1.mem hi1 he
    rw [e1]
    exact (hp2.key hi2 x).2 (hs x e2)
  constructor
  · have := nodup_len hi1.keys hsub
    simpa using this
  · intro x h1 h2
    have := nodup_len (l := (x : Int) :: es1.map fun e => keyI e.1) (m := es2.map fun e => keyI e.1) (by rw [List.nodup_cons]; exact ⟨fun hm => (hp1.key hi1 x).1 hm h1, hi1.keys⟩) (by
      intro a ha
      rcases List.mem_cons.1 ha with rfl | ha
      · exact (hp2.key hi2 x).2 h2
      · exact hsub a ha)
    simp at this; omega
theorem PendAt.cv {h : Heap} {bd : Nat} {L : DL} {D : DS} {es : Ents} (hp : PendAt h bd L D es) (hs : ∀ s, ∀ l ∈ D.pe s, IsSec l) (few : ∀ s, (D.pe s).length ≤ 1000000000) {R : Set'} {x : Nat} (hx : D.pe x ≠ []) (hR : R (L.pb x)) : CV h R (.slice (some (L.pb x, 0)) (D.pe x).length (D.pe x).length false) (D.pe x).length (fun i => (D.pe x).getD i []) := by
  refine ⟨few x, .inr ⟨_, _, _, _, rfl, hR, (hp.blk x hx).1, by rw [w_of_size, flat_len (hs x)]; exact Nat.le_refl _, fun s hs' => ?_⟩⟩
  have e : (D.pe x)[s]? = some ((D.pe x).getD s []) := by rw [List.getD_eq_getElem?_getD, List.getElem?_eq_getElem hs']; rfl
  exact ⟨flat_gets (hs x) e, hs x _ (List.mem_of_getElem? e)⟩
theorem same_list {a b : List (List V)} : (a.length = b.length ∧ ∀ s, s < a.length → a.getD s [] = b.getD s []) ↔ a = b := by
  constructor
  · rintro ⟨h1, h2⟩
    apply List.ext_getElem?
    intro j
    by_cases hj : j < a.length
    · have := h2 j hj
      rw [List.getD_eq_getElem?_getD, List.getD_eq_getElem?_getD, List.getElem?_eq_getElem hj, List.getElem?_eq_getElem (by omega)] at this
      rw [List.getElem?_eq_getElem hj, List.getElem?_eq_getElem (by omega)]
      simpa using this
    · rw [List.getElem?_eq_none (by omega), List.getElem?_eq_none (by omega)]
  · rintro rfl; exact ⟨rfl, fun _ _ => rfl⟩
theorem same1_ok {h : Heap} {R W : Set'} {v1 v2 : V} {m1 m2 : Nat} {F1 F2 : Nat → List V} (hv1 : CV h R v1 m1 F1) (hv2 : CV h R v2 m2 F2) :
    SF Try.prog 34 [v1, v2] h R W fun v h' => ∃ b, v = .bool b ∧ (b = true ↔ m1 = m2 ∧ ∀ s, s < m1 → F1 s = F2 s) ∧ h' = h := by
  refine SF.go hm Try.func34 ir34_eq ?_
  simp -implicitDefEqProofs (disch := (first | omega | (simp -implicitDefEqProofs only [szs, ne_eq] <;> omega) | fail)) only [go_sem, Nat.reduceAdd, Nat.reduceSub, Nat.reduceMul, Nat.reduceLT, Nat.reduceMod, Nat.reduceDiv, Nat.reduceEqDiff, Nat.reduceBEq, Nat.reduceLeDiff, ↓reduceIte, reduceCtorEq, Int.reduceAdd, Int.reduceSub, Int.reduceLT, Int.reduceLE, Int.reduceBEq, Int.reduceEq, Int.reduceToNat, ir34]
  refine GCall.of ((equal_ok hv1 hv2).foot (fun b hb => .inr hb) (fun b hb => .inr hb)) ?_
  rintro v h' ⟨b, rfl, hb, rfl⟩
  simp -implicitDefEqProofs (disch := (first | omega | (simp -implicitDefEqProofs only [szs, ne_eq] <;> omega) | fail)) only [go_sem, Nat.reduceAdd, Nat.reduceSub, Nat.reduceMul, Nat.reduceLT, Nat.reduceMod, Nat.reduceDiv, Nat.reduceEqDiff, Nat.reduceBEq, Nat.reduceLeDiff, ↓reduceIte, reduceCtorEq, Int.reduceAdd, Int.reduceSub, Int.reduceLT, Int.reduceLE, Int.reduceBEq, Int.reduceEq, Int.reduceToNat]
  exact ⟨b, rfl, hb⟩
/-- What Same reads of a map. -/
def FootP (L : DL) (D : DS) : Set' := fun b => b = L.mb ∨ ∃ x, D.pe x ≠ [] ∧ b = L.pb x
def ir33_rest : LC := match ir33_l0 with
  | .seq _ r => r
  | _ => .skip
theorem ir33_l0_eq : ir33_l0 = .seq (.ops [⟨some 18, Op.next (Operand.tmp 17) false, none⟩, ⟨some 19, Op.extract (Operand.tmp 18) 0, none⟩]) ir33_rest := rfl
theorem eqf_dem {h : Heap} {bd1 bd2 : Nat} {L1 L2 : DL} {D1 D2 : DS} (hd1 : DiskAt h bd1 L1 D1) (hd2 : DiskAt h bd2 L2 D2) {b : Bool} (hb : b = true ↔ ∀ x, D1.pe x = D2.pe x) :
    SF ⟨Try.prog, true⟩ 33 [.map (some L1.mb), .map (some L2.mb), .func 34 [] []] h (fun b => FootP L1 D1 b ∨ FootP L2 D2 b) (fun _ => False) fun v _ => v = .bool b := by
  obtain ⟨es1, ck1, m1, i1, p1⟩ := hd1.m
  obtain ⟨es2, ck2, m2, i2, p2⟩ := hd2.m
  have hlt1 := Heap.lt_of_get m1
  have hlt2 := Heap.lt_of_get m2
  have hR1 : FootP L1 D1 L1.mb := .inl rfl
  have hR2 : FootP L2 D2 L2.mb := .inl rfl
  refine SF.go hm Try.func33 ir33_eq ?_
  by_cases hlen : es1.length = es2.length
  · simp -implicitDefEqProofs (disch := (first | omega | (simp -implicitDefEqProofs only [szs, ne_eq] <;> omega) | fail)) only [go_sem, Nat.reduceAdd, Nat.reduceSub, Nat.reduceMul, Nat.reduceLT, Nat.reduceMod, Nat.reduceDiv, Nat.reduceEqDiff, Nat.reduceBEq, Nat.reduceLeDiff, ↓reduceIte, reduceCtorEq, Int.reduceAdd, Int.reduceSub, Int.reduceLT, Int.reduceLE, Int.reduceBEq, Int.reduceEq, Int.reduceToNat, ir33, lenV, m1, m2, hR1, hR2, rangeV]
    generalize hg0 : h.push (.iter (some L1.mb) ck1 [] ck1) = g0
    have hn0 : g0.n = h.n + 1 := by rw [← hg0]; rfl
    refine GLoop.inv hm (fun k f g => f.mks = [] ∧ f.tm.n = 38 ∧ f.tm.get 1 = some (.map (some L2.mb)) ∧ f.tm.get 2 = some (.func 34 [] []) ∧ f.tm.get 17 = some (.ptr (some (h.n, 0))) ∧ h.n + 1 ≤ g.n ∧ (∀ b, b < h.n → g.get b = h.get b) ∧
      ∃ l seen, Seen es1 seen l ∧ l.length + k = es1.length ∧ g.get h.n = some (.iter (some L1.mb) ck1 seen ck1) ∧ ∀ e ∈ l, ∀ x : Nat, e.1 = .int .i64 x → D1.pe x = D2.pe x) es1.length ?_ ?_
    · refine ⟨rfl, rfl, by simp -implicitDefEqProofs (disch := (first | omega | (simp -implicitDefEqProofs only [szs, ne_eq] <;> omega) | fail)) only [go_sem, Nat.reduceAdd, Nat.reduceSub, Nat.reduceMul, Nat.reduceLT, Nat.reduceMod, Nat.reduceDiv, Nat.reduceEqDiff, Nat.reduceBEq, Nat.reduceLeDiff, ↓reduceIte, reduceCtorEq, Int.reduceAdd, Int.reduceSub, Int.reduceLT, Int.reduceLE, Int.reduceBEq, Int.reduceEq, Int.reduceToNat], by simp -implicitDefEqProofs (disch := (first | omega | (simp -implicitDefEqProofs only [szs, ne_eq] <;> omega) | fail)) only [go_sem, Nat.reduceAdd, Nat.reduceSub, Nat.reduceMul, Nat.reduceLT, Nat.reduceMod, Nat.reduceDiv, Nat.reduceEqDiff, Nat.reduceBEq, Nat.reduceLeDiff, ↓reduceIte, reduceCtorEq, Int.reduceAdd, Int.reduceSub, Int.reduceLT, Int.reduceLE, Int.reduceBEq, Int.reduceEq, Int.reduceToNat], by simp -implicitDefEqProofs (disch := (first | omega | (simp -implicitDefEqProofs only [szs, ne_eq] <;> omega) | fail)) only [go_sem, Nat.reduceAdd, Nat.reduceSub, Nat.reduceMul, Nat.reduceLT, Nat.reduceMod, Nat.reduceDiv, Nat.reduceEqDiff, Nat.reduceBEq, Nat.reduceLeDiff, ↓reduceIte, reduceCtorEq, Int.reduceAdd, Int.reduceSub, Int.reduceLT, Int.reduceLE, Int.reduceBEq, Int.reduceEq, Int.reduceToNat], by omega, fun b hb => ?_, [], [], Seen.nil es1, by simp, ?_, by simp⟩
      · rw [← hg0, w_push_ne (by omega)]
      · rw [← hg0, w_push_eq rfl]
    rintro k ⟨⟨m, tr⟩, mks⟩ g ⟨hmk, hn, t1, t2, t17, hgn, hgo, l, seen, hs, hlk, hit, hall⟩
    simp only [Tm.get_mk] at hmk hn t1 t2 t17
    subst hmk hn
    have hgr : g.get L1.mb = some (.map es1 ck1) := by rw [hgo _ hlt1]; exact m1
    simp -implicitDefEqProofs (disch := (first | omega | (simp -implicitDefEqProofs only [szs, ne_eq] <;> omega) | fail)) only [go_sem, Nat.reduceAdd, Nat.reduceSub, Nat.reduceMul, Nat.reduceLT, Nat.reduceMod, Nat.reduceDiv, Nat.reduceEqDiff, Nat.reduceBEq, Nat.reduceLeDiff, ↓reduceIte, reduceCtorEq, Int.reduceAdd, Int.reduceSub, Int.reduceLT, Int.reduceLE, Int.reduceBEq, Int.reduceEq, Int.reduceToNat, ir33_l0_eq, t17, SNext, hit, hgr, hR1, hR2]
    refine ⟨?_, ?_, ?_⟩
    · cases es1 with
      | nil => exact .inr (.inl rfl)
      | cons e es => exact .inr (.inr ⟨e, by simp, i1.ok.lt e (by simp)⟩)
    · intro hlast
      have hp := hs.last i1.ok fun e he => hlast e he (i1.ok.lt e he)
      simp -implicitDefEqProofs (disch := (first | omega | (simp -implicitDefEqProofs only [szs, ne_eq] <;> omega) | fail)) only [go_sem, Nat.reduceAdd, Nat.reduceSub, Nat.reduceMul, Nat.reduceLT, Nat.reduceMod, Nat.reduceDiv, Nat.reduceEqDiff, Nat.reduceBEq, Nat.reduceLeDiff, ↓reduceIte, reduceCtorEq, Int.reduceAdd, Int.reduceSub, Int.reduceLT, Int.reduceLE, Int.reduceBEq, Int.reduceEq, Int.reduceToNat, ir33_rest, ir33_l0]
      have hsame : ∀ x, D1.pe x ≠ [] → D1.pe x = D2.pe x := fun x hx => by
        obtain ⟨e, he, hk⟩ := List.mem_map.1 ((p1.key i1 x).2 hx)
        obtain ⟨y, e1, _⟩ := p1.mem i1 he
        rw [e1] at hk
        have hk : (y : Int) = x := hk
        have : y = x := by omega
        subst this
        exact hall e (hp.mem_iff.2 he) y e1
      have hb' : b = true := hb.2 fun x => by
        by_cases hx : D1.pe x = []
        · by_cases hx2 : D2.pe x = []
          · rw [hx, hx2]
          · have := (pend_len p1 i1 p2 i2 fun y hy => by rw [← hsame y hy]; exact hy).2 x hx hx2
            omega
        · exact hsame x hx
      rw [hb']
    · intro e he hns
      have hs' := hs.step he hns
      have hle := hs'.length
      obtain ⟨x, e1, hx1, e2⟩ := p1.mem i1 he
      rw [List.length_append, List.length_singleton] at hle
      have hE := entry_at (g := g.set h.n (.iter (some L1.mb) ck1 (seen ++ [e.2.2]) ck1)) (b := h.n) (w_set_eq (by omega) rfl _) (by rw [w_set_ne (by omega) (by omega)]; exact hgr) i1.ok he
      rw [e1, e2] at hE
      have hgo2 : ∀ b, b < h.n → (g.set h.n (.iter (some L1.mb) ck1 (seen ++ [e.2.2]) ck1)).get b = h.get b := fun b hb => by rw [w_set_ne (by omega) (by omega)]; exact hgo b hb
      have hit2 : (g.set h.n (.iter (some L1.mb) ck1 (seen ++ [e.2.2]) ck1)).get h.n = some (.iter (some L1.mb) ck1 (seen ++ [e.2.2]) ck1) := w_set_eq (by omega) rfl _
      have hgn2 : (g.set h.n (.iter (some L1.mb) ck1 (seen ++ [e.2.2]) ck1)).n = g.n := rfl
      generalize g.set h.n (.iter (some L1.mb) ck1 (seen ++ [e.2.2]) ck1) = g2 at *
      have hl2 := look_int2 (P := Try.prog) (t := 52) Try.underlying52 Try.underlying3 zv_51 (h := g2) (by rw [hgo2 _ hlt2]; exact m2) i2 x
      rw [p2.has] at hl2
      by_cases hx2 : D2.pe x = []
      · rw [if_pos hx2, Option.getD_none, Option.isSome_none] at hl2
        simp -implicitDefEqProofs (disch := (first | omega | (simp -implicitDefEqProofs only [szs, ne_eq] <;> omega) | fail)) only [go_sem, Nat.reduceAdd, Nat.reduceSub, Nat.reduceMul, Nat.reduceLT, Nat.reduceMod, Nat.reduceDiv, Nat.reduceEqDiff, Nat.reduceBEq, Nat.reduceLeDiff, ↓reduceIte, reduceCtorEq, Int.reduceAdd, Int.reduceSub, Int.reduceLT, Int.reduceLE, Int.reduceBEq, Int.reduceEq, Int.reduceToNat, ir33_rest, ir33_l0, e1, e2, hE, hl2, t1, t2, t17]
        refine ⟨.inr (.inl hR1), .inr (.inr hR2), ?_⟩
        have : b ≠ true := fun e => hx1 (by rw [hb.1 e x]; exact hx2)
        simp only [Bool.not_eq_true] at this
        rw [this]
      · rw [if_neg hx2, Option.getD_some, Option.isSome_some] at hl2
        simp -implicitDefEqProofs (disch := (first | omega | (simp -implicitDefEqProofs only [szs, ne_eq] <;> omega) | fail)) only [go_sem, Nat.reduceAdd, Nat.reduceSub, Nat.reduceMul, Nat.reduceLT, Nat.reduceMod, Nat.reduceDiv, Nat.reduceEqDiff, Nat.reduceBEq, Nat.reduceLeDiff, ↓reduceIte, reduceCtorEq, Int.reduceAdd, Int.reduceSub, Int.reduceLT, Int.reduceLE, Int.reduceBEq, Int.reduceEq, Int.reduceToNat, ir33_rest, ir33_l0, e1, e2, hE, hl2, t1, t2, t17]
        refine ⟨.inr (.inl hR1), .inr (.inr hR2), ?_⟩
        refine GCall.of (SF.any (M := (⟨Try.prog, true⟩ : MP)) (same1_ok ((p1.cv hd1.pe hd1.few hx1 (.inr (.inl (.inr ⟨x, hx1, rfl⟩)))).old hgo2) ((p2.cv hd2.pe hd2.few hx2 (.inr (.inr (.inr ⟨x, hx2, rfl⟩)))).old hgo2))) ?_
        rintro v g3 ⟨b3, rfl, hb3, rfl⟩
        rw [same_list] at hb3
        by_cases hxx : D1.pe x = D2.pe x
        · rw [hb3.2 hxx]
          simp -implicitDefEqProofs (disch := (first | omega | (simp -implicitDefEqProofs only [szs, ne_eq] <;> omega) | fail)) only [go_sem, Nat.reduceAdd, Nat.reduceSub, Nat.reduceMul, Nat.reduceLT, Nat.reduceMod, Nat.reduceDiv, Nat.reduceEqDiff, Nat.reduceBEq, Nat.reduceLeDiff, ↓reduceIte, reduceCtorEq, Int.reduceAdd, Int.reduceSub, Int.reduceLT, Int.reduceLE, Int.reduceBEq, Int.reduceEq, Int.reduceToNat, t1, t2, t17]
          refine ⟨k - 1, by omega, by omega, hgo2, l ++ [e], seen ++ [e.2.2], hs', by rw [List.length_append, List.length_singleton]; omega, hit2, ?_⟩
          intro e' he' y hy
          rcases List.mem_append.1 he' with he' | he'
          · exact hall e' he' y hy
          · simp at he'; subst he'
            rw [e1] at hy
            have hy : (x : Int) = y := by simpa using hy
            have : x = y := by omega
            subst this; exact hxx
        · have hf : b3 = false := by
            rw [← Bool.not_eq_true]; exact fun e => hxx (hb3.1 e)
          rw [hf]
          simp -implicitDefEqProofs (disch := (first | omega | (simp -implicitDefEqProofs only [szs, ne_eq] <;> omega) | fail)) only [go_sem, Nat.reduceAdd, Nat.reduceSub, Nat.reduceMul, Nat.reduceLT, Nat.reduceMod, Nat.reduceDiv, Nat.reduceEqDiff, Nat.reduceBEq, Nat.reduceLeDiff, ↓reduceIte, reduceCtorEq, Int.reduceAdd, Int.reduceSub, Int.reduceLT, Int.reduceLE, Int.reduceBEq, Int.reduceEq, Int.reduceToNat, t1, t2, t17]
          have : b ≠ true := fun e => hxx (hb.1 e x)
          simp only [Bool.not_eq_true] at this
          rw [this]
  · simp -implicitDefEqProofs (disch := (first | omega | (simp -implicitDefEqProofs only [szs, ne_eq] <;> omega) | fail)) only [go_sem, Nat.reduceAdd, Nat.reduceSub, Nat.reduceMul, Nat.reduceLT, Nat.reduceMod, Nat.reduceDiv, Nat.reduceEqDiff, Nat.reduceBEq, Nat.reduceLeDiff, ↓reduceIte, reduceCtorEq, Int.reduceAdd, Int.reduceSub, Int.reduceLT, Int.reduceLE, Int.reduceBEq, Int.reduceEq, Int.reduceToNat, ir33, lenV, m1, m2, hR1, hR2]
    have : b ≠ true := fun e => hlen (by
      have hx := hb.1 e
      have h1 := (pend_len p1 i1 p2 i2 fun y hy => by rw [← hx y]; exact hy).1
      have h2 := (pend_len p2 i2 p1 i1 fun y hy => by rw [hx y]; exact hy).1
      omega)
    simp only [Bool.not_eq_true] at this
    rw [this]
theorem eqf_ok {h : Heap} {bd1 bd2 : Nat} {L1 L2 : DL} {D1 D2 : DS} (hd1 : DiskAt h bd1 L1 D1) (hd2 : DiskAt h bd2 L2 D2) {b : Bool} (hb : b = true ↔ ∀ x, D1.pe x = D2.pe x) :
    SF Try.prog 33 [.map (some L1.mb), .map (some L2.mb), .func 34 [] []] h (fun b => FootP L1 D1 b ∨ FootP L2 D2 b) (fun _ => False) fun v h' => v = .bool b ∧ h' = h := by
  refine SF.of_dem_val (fun b hb => ?_) trivial fun g hg hgo => eqf_dem (hd1.old hgo) (hd2.old hgo) hb
  rcases hb with (rfl | ⟨x, hx, rfl⟩) | (rfl | ⟨x, hx, rfl⟩)
  · exact hd1.lt _ (.inr (.inr (.inl rfl)))
  · exact hd1.lt _ (.inr (.inr (.inr ⟨x, hx, rfl⟩)))
  · exact hd2.lt _ (.inr (.inr (.inl rfl)))
  · exact hd2.lt _ (.inr (.inr (.inr ⟨x, hx, rfl⟩)))
theorem DiskAt.cv {h : Heap} {bd : Nat} {L : DL} {D : DS} (hd : DiskAt h bd L D) {R : Set'} (hR : R L.fb) : CV h R (.slice (some (L.fb, 0)) D.n L.cap L.ex) D.n D.fl := by
  obtain ⟨f, f1, fs, _, fg⟩ := hd.f
  have := hd.pos
  exact ⟨by omega, .inr ⟨_, _, _, f, rfl, hR, f1, by omega, fun s hs => ⟨fg s hs, hd.fl s hs⟩⟩⟩
theorem same_ok {h : Heap} {R W : Set'} {bd1 bd2 : Nat} {L1 L2 : DL} {D1 D2 : DS} (hd1 : DiskAt h bd1 L1 D1) (hd2 : DiskAt h bd2 L2 D2) (hR1 : ∀ b, Foot bd1 L1 D1 b → R b) (hR2 : ∀ b, Foot bd2 L2 D2 b → R b) :
    SF Try.prog 16 [.ptr (some (bd1, 0)), .ptr (some (bd2, 0))] h R W fun v h' => ∃ b, v = .bool b ∧ (b = true ↔ (D1.n = D2.n ∧ ∀ s, s < D1.n → D1.fl s = D2.fl s) ∧ ∀ x, D1.pe x = D2.pe x) ∧ h' = h := by
  classical
  obtain ⟨c1, g1, sz1, _, q1, r1, _⟩ := hd1.d
  obtain ⟨c2, g2, sz2, _, q2, r2, _⟩ := hd2.d
  have hA1 := hR1 _ (.inl rfl)
  have hA2 := hR2 _ (.inl rfl)
  refine SF.go hm Try.func16 ir16_eq ?_
  simp -implicitDefEqProofs (disch := (first | omega | (simp -implicitDefEqProofs only [szs, ne_eq] <;> omega) | fail)) only [go_sem, Nat.reduceAdd, Nat.reduceSub, Nat.reduceMul, Nat.reduceLT, Nat.reduceMod, Nat.reduceDiv, Nat.reduceEqDiff, Nat.reduceBEq, Nat.reduceLeDiff, ↓reduceIte, reduceCtorEq, Int.reduceAdd, Int.reduceSub, Int.reduceLT, Int.reduceLE, Int.reduceBEq, Int.reduceEq, Int.reduceToNat, ir16]
  refine GCall.of (there_ok hd1 (.inr hA1)) ?_
  rintro v h' ⟨rfl, rfl⟩
  simp -implicitDefEqProofs (disch := (first | omega | (simp -implicitDefEqProofs only [szs, ne_eq] <;> omega) | fail)) only [go_sem, Nat.reduceAdd, Nat.reduceSub, Nat.reduceMul, Nat.reduceLT, Nat.reduceMod, Nat.reduceDiv, Nat.reduceEqDiff, Nat.reduceBEq, Nat.reduceLeDiff, ↓reduceIte, reduceCtorEq, Int.reduceAdd, Int.reduceSub, Int.reduceLT, Int.reduceLE, Int.reduceBEq, Int.reduceEq, Int.reduceToNat]
  refine GCall.of (there_ok hd2 (.inr hA2)) ?_
  rintro v h' ⟨rfl, rfl⟩
  simp -implicitDefEqProofs (disch := (first | omega | (simp -implicitDefEqProofs only [szs, ne_eq] <;> omega) | fail)) only [go_sem, Nat.reduceAdd, Nat.reduceSub, Nat.reduceMul, Nat.reduceLT, Nat.reduceMod, Nat.reduceDiv, Nat.reduceEqDiff, Nat.reduceBEq, Nat.reduceLeDiff, ↓reduceIte, reduceCtorEq, Int.reduceAdd, Int.reduceSub, Int.reduceLT, Int.reduceLE, Int.reduceBEq, Int.reduceEq, Int.reduceToNat, g1, g2, q1, q2, undefV]
  refine GCallD.of (R' := fun b => b = L1.fb ∨ b = L2.fb) (W' := fun _ => False) (equal_ok (hd1.cv (.inl rfl)) (hd2.cv (.inr rfl))) ?_
  rintro v h'' ⟨b1, rfl, hb1, rfl⟩
  by_cases e1 : b1 = true
  · subst e1
    simp only [true_iff] at hb1
    simp -implicitDefEqProofs (disch := (first | omega | (simp -implicitDefEqProofs only [szs, ne_eq] <;> omega) | fail)) only [go_sem, Nat.reduceAdd, Nat.reduceSub, Nat.reduceMul, Nat.reduceLT, Nat.reduceMod, Nat.reduceDiv, Nat.reduceEqDiff, Nat.reduceBEq, Nat.reduceLeDiff, ↓reduceIte, reduceCtorEq, Int.reduceAdd, Int.reduceSub, Int.reduceLT, Int.reduceLE, Int.reduceBEq, Int.reduceEq, Int.reduceToNat, g1, g2, r1, r2, undefV]
    refine GCallD.of (eqf_ok hd1 hd2 (b := decide (∀ x, D1.pe x = D2.pe x)) decide_eq_true_iff) ?_
    rintro v h' ⟨rfl, rfl⟩
    simp -implicitDefEqProofs (disch := (first | omega | (simp -implicitDefEqProofs only [szs, ne_eq] <;> omega) | fail)) only [go_sem, Nat.reduceAdd, Nat.reduceSub, Nat.reduceMul, Nat.reduceLT, Nat.reduceMod, Nat.reduceDiv, Nat.reduceEqDiff, Nat.reduceBEq, Nat.reduceLeDiff, ↓reduceIte, reduceCtorEq, Int.reduceAdd, Int.reduceSub, Int.reduceLT, Int.reduceLE, Int.reduceBEq, Int.reduceEq, Int.reduceToNat, undefV]
    have f1 := hR1 L1.fb (.inr (.inl rfl))
    have f2 := hR2 L2.fb (.inr (.inl rfl))
    refine ⟨⟨fun _ => .inr hA1, fun _ => .inr hA2, fun b _ h => by rcases h with rfl | rfl <;> exact .inr (by assumption), fun _ _ h => h.elim, fun _ => .inr hA1, fun _ => .inr hA2, fun b _ h => ?_, fun _ _ h => h.elim⟩, _, rfl, ?_⟩
    · rcases h with (rfl | ⟨x, hx, rfl⟩) | (rfl | ⟨x, hx, rfl⟩)
      · exact .inr (hR1 _ (.inr (.inr (.inl rfl))))
      · exact .inr (hR1 _ (.inr (.inr (.inr ⟨x, hx, rfl⟩))))
      · exact .inr (hR2 _ (.inr (.inr (.inl rfl))))
      · exact .inr (hR2 _ (.inr (.inr (.inr ⟨x, hx, rfl⟩))))
    · rw [decide_eq_true_iff]
      exact ⟨fun h => ⟨hb1, h⟩, fun h => h.2⟩
  · simp only [Bool.not_eq_true] at e1
    subst e1
    simp -implicitDefEqProofs (disch := (first | omega | (simp -implicitDefEqProofs only [szs, ne_eq] <;> omega) | fail)) only [go_sem, Nat.reduceAdd, Nat.reduceSub, Nat.reduceMul, Nat.reduceLT, Nat.reduceMod, Nat.reduceDiv, Nat.reduceEqDiff, Nat.reduceBEq, Nat.reduceLeDiff, ↓reduceIte, reduceCtorEq, Int.reduceAdd, Int.reduceSub, Int.reduceLT, Int.reduceLE, Int.reduceBEq, Int.reduceEq, Int.reduceToNat, g1, g2, r1, r2, undefV]
    have f1 := hR1 L1.fb (.inr (.inl rfl))
    have f2 := hR2 L2.fb (.inr (.inl rfl))
    simp only [false_implies, implies_true, and_true, true_and]
    refine ⟨⟨fun _ => .inr hA1, fun _ => .inr hA2, fun b _ h => by rcases h with rfl | rfl <;> exact .inr (by assumption)⟩, _, rfl, ?_⟩
    simp only [Bool.false_eq_true, false_iff] at hb1 ⊢
    exact fun h => hb1 h.1
end Go.Proofs.Ytgkcbpagdfdpdaa
