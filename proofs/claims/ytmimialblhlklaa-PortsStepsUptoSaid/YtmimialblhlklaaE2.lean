/- Ports: Claim. -/
import Derived.Test.YtmimialblhlklaaE
set_option linter.unusedVariables false
set_option maxRecDepth 100000
namespace Go.Proofs.Ytmimialblhlklaa
open Go Go.Vm
variable {h : Heap} {R W I : Set'} {pp mp : Nat} {qs : List Nat} {T : PT}
set_option maxHeartbeats 4000000 in
theorem claim_ok {S : Set'} {v : V} {L : List Te} (hp : PortsAt h I pp mp qs T) (hv : TestsV h S v L) (hR : ∀ b, R b) (hW : ∀ b, MutB mp T b → W b) (a : Int) : SF Try.prog 10 [.ptr (some (pp, 0)), .int .i64 a, v] h R W fun r h' => h.n ≤ h'.n ∧ r = .tuple [.int .i64 (claimN qs T a L).1, .int .i64 (claimN qs T a L).2] ∧ (((claimN qs T a L).2 ≠ 0 ∧ ∀ b, b < h.n → h'.get b = h.get b) ∨ ∃ (n b : Nat), claimN qs T a L = ((n : Int), 0) ∧ okF L ∧ T a.toNat n = none ∧ h.n ≤ b ∧ PortsAt h' (fun k => I k ∨ Fresh h h' 79 k) pp mp qs (updT T a.toNat n (some (b, ⟨L, [], 0⟩))) ∧ ∀ k, k < h.n → k ≠ mp → h'.get k = h.get k) := by
 refine SF.go hm Try.func10 ir10_eq ?_
 simp -implicitDefEqProofs (disch := (first | omega | (simp -implicitDefEqProofs only [szs, ne_eq] <;> omega) | fail)) only [go_sem, seval, ↓reduceIte, reduceCtorEq, ir10]
 refine GCall.of (account_ok hp (.inr (hR _)) a) ?_
 rintro r h1 ⟨rfl, rfl⟩
 by_cases ha : okA qs a
 rotate_left
 ·have hc : claimN qs T a L = (0, 2) := if_neg ha
  simp only [if_neg ha, hc]
  simp -implicitDefEqProofs (disch := (first | omega | (simp -implicitDefEqProofs only [szs, ne_eq] <;> omega) | fail)) only [go_sem, Nat.reduceAdd, Nat.reduceSub, Nat.reduceMod, Nat.reduceDiv, ↓reduceIte, reduceCtorEq]
  exact .inl (by decide)
 simp only [if_pos ha]
 simp -implicitDefEqProofs (disch := (first | omega | (simp -implicitDefEqProofs only [szs, ne_eq] <;> omega) | fail)) only [go_sem, seval, ↓reduceIte, reduceCtorEq]
 refine GCall.of (((check_ok (R := fun _ => True) (W := fun _ => False) hv (fun _ => trivial)).kept).foot (fun b _ => .inr (hR b)) (fun _ h => h.elim)) ?_
 rintro r h2 ⟨⟨rfl, hn2, hk2⟩, _⟩
 by_cases hf : okF L
 rotate_left
 ·have hc : claimN qs T a L = (0, 2) := by unfold claimN; rw [if_pos ha, if_neg hf]
  simp only [if_neg hf, hc]
  simp -implicitDefEqProofs (disch := (first | omega | (simp -implicitDefEqProofs only [szs, ne_eq] <;> omega) | fail)) only [go_sem, Nat.reduceAdd, Nat.reduceSub, Nat.reduceMod, Nat.reduceDiv, ↓reduceIte, reduceCtorEq]
  exact ⟨hn2, .inl ⟨by decide, hk2⟩⟩
 simp only [if_pos hf]
 have hp2 := hp.old hk2
 obtain ⟨c, c1, c2, c3, c4⟩ := hp2.c
 obtain ⟨A, rfl⟩ := Int.eq_ofNat_of_zero_le ha.1
 have hA : A < qs.length := by have := ha.2; omega
 obtain ⟨bq, oq, capq, exq, cq, ceq, eq', hSq, hbq, hsq, hgq⟩ := c4.get (i := A) (by simpa using hA)
 have hRq := hR bq
 have hRp := hR pp
 rw [List.length_map] at hsq eq'
 have hgq' : cq.get (oq + A) = .int .i64 ((qs.getD A 0 : Nat) : Int) := by rw [hgq]; simp [List.getD, hA]
 have hq : qs[A]? = some (qs.getD A 0) := by rw [List.getD_eq_getElem?_getD, List.getElem?_eq_getElem hA]; rfl
 have hq16 : qs.getD A 0 ≤ 16 := hp.qs.2.2 _ (by rw [List.getD_eq_getElem?_getD, List.getElem?_eq_getElem hA]; exact List.getElem_mem hA)
 have hcl : claimN qs T (A : Int) L = (match freeN T A 0 (qs.getD A 0) with | some n => ((n : Int), 0) | none => (0, 5)) := by unfold claimN; rw [if_pos ha, if_pos hf]; rfl
 generalize qs.getD A 0 = Q at *
 simp -implicitDefEqProofs (disch := (first | omega | (simp -implicitDefEqProofs only [szs, ne_eq] <;> omega) | fail)) only [go_sem, seval, ↓reduceIte, reduceCtorEq, c1, c2, eq', hRp, hRq, hbq, hgq']
 refine GLoop.inv hm (fun k f g => f.mks = [] ∧ f.tm.n = 54 ∧ f.tm.get 0 = some (.ptr (some (pp, 0))) ∧ f.tm.get 1 = some (.int .i64 (A : Int)) ∧ f.tm.get 2 = some v ∧ f.tm.get 29 = some (.int .i64 (Q : Int)) ∧ h2.n ≤ g.n ∧ (∀ b, b < h2.n → g.get b = h2.get b) ∧ ∃ i : Nat, i + k = Q ∧ f.tm.get 30 = some (.int .i64 (i : Int)) ∧ freeN T A 0 Q = freeN T A i k) Q ?_ ?_
 ·exact ⟨rfl, rfl, by simp -implicitDefEqProofs (disch := (first | omega | (simp -implicitDefEqProofs only [szs, ne_eq] <;> omega) | fail)) only [go_sem, seval, ↓reduceIte], by simp -implicitDefEqProofs (disch := (first | omega | (simp -implicitDefEqProofs only [szs, ne_eq] <;> omega) | fail)) only [go_sem, seval, ↓reduceIte, reduceCtorEq], by simp -implicitDefEqProofs (disch := (first | omega | (simp -implicitDefEqProofs only [szs, ne_eq] <;> omega) | fail)) only [go_sem, seval, ↓reduceIte, reduceCtorEq], by simp -implicitDefEqProofs (disch := (first | omega | (simp -implicitDefEqProofs only [szs, ne_eq] <;> omega) | fail)) only [go_sem, seval, ↓reduceIte, reduceCtorEq], Nat.le_refl _, fun _ _ => rfl, 0, by omega, by simp -implicitDefEqProofs (disch := (first | omega | (simp -implicitDefEqProofs only [szs, ne_eq] <;> omega) | fail)) only [go_sem, Nat.reduceSub, Nat.reduceMod, Nat.reduceDiv, ↓reduceIte, reduceCtorEq]; rfl, rfl⟩
 rintro k ⟨⟨n', tr⟩, mks⟩ g ⟨hmk, hn', t0, t1, t2, t29, hgn, hgk, i, hik, t30, hfr⟩
 simp only [Tm.get_mk] at hmk hn' t0 t1 t2 t29 t30
 subst hmk hn'
 have hkg : ∀ b, b < h1.n → g.get b = h1.get b := fun b hb => by rw [hgk b (by omega), hk2 b hb]
 have hpg := hp.old hkg
 by_cases hin : i < Q
 ·obtain ⟨k, rfl⟩ : ∃ k', k = k' + 1 := ⟨k - 1, by omega⟩
  have wn : h1.n ≤ g.n ∨ W g.n := .inl (by omega)
  have rn : h1.n ≤ g.n ∨ R g.n := .inl (by omega)
  obtain ⟨es, ck, m1, m2, m3⟩ := hpg.m
  obtain ⟨cg, g1, g2, g3, g4⟩ := hpg.c
  have hmp := Heap.lt_of_get m1
  have hpp := Heap.lt_of_get g1
  have hp3 : PortsAt ((g.push (.cells (Blk.of [.int .i64 0, .int .i64 0]) 75)).set g.n (.cells (((Blk.of [.int .i64 0, .int .i64 0]).set 0 (.int .i64 (A : Int))).set 1 (.int .i64 (i : Int))) 75)) I pp mp qs T := hpg.old fun b hb => by simp -implicitDefEqProofs (disch := (first | omega | (simp -implicitDefEqProofs only [szs, ne_eq] <;> omega) | fail)) only [go_sem, seval]
  have hlk := hp3.look (A : Int) (i : Int)
  have hlT : lookT T (A : Int) (i : Int) = T A i := if_pos ⟨by omega, by omega⟩
  rw [hlT] at hlk
  have hRm := hR mp
  cases hT : T A i with
  | some y =>
   rw [hT, Option.map_some, Option.getD_some] at hlk
   simp only [freeN, hT] at hfr
   simp -implicitDefEqProofs (disch := (first | omega | (simp -implicitDefEqProofs only [szs, ne_eq] <;> omega) | fail)) only [go_sem, seval, ↓reduceIte, reduceCtorEq, ir10_l0, undefV, t0, t1, t2, t29, t30, wn, rn, g1, g2, g3, hRp, hRm, hlk]
   exact ⟨k, by omega, by omega, fun b hb => by simp -implicitDefEqProofs (disch := (first | omega | (simp -implicitDefEqProofs only [szs, ne_eq] <;> omega) | fail)) only [go_sem, seval]; exact hgk b hb, i + 1, by omega, rfl, hfr⟩
  | none =>
   rw [hT, Option.map_none, Option.getD_none] at hlk
   simp only [freeN, hT] at hfr
   simp -implicitDefEqProofs (disch := (first | omega | (simp -implicitDefEqProofs only [szs, ne_eq] <;> omega) | fail)) only [go_sem, seval, ↓reduceIte, reduceCtorEq, ir10_l0, undefV, t0, t1, t2, t29, t30, wn, rn, g1, g2, g3, hRp, hRm, hlk, Option.isNone_none]
   have kG : ∀ b, b < g.n → ((g.push (.cells (Blk.of [.int .i64 0, .int .i64 0]) 75)).set g.n (.cells (((Blk.of [.int .i64 0, .int .i64 0]).set 0 (.int .i64 (A : Int))).set 1 (.int .i64 (i : Int))) 75)).get b = g.get b := fun b hb => by simp -implicitDefEqProofs (disch := (first | omega | (simp -implicitDefEqProofs only [szs, ne_eq] <;> omega) | fail)) only [go_sem, seval]
   refine GCallD.of (R' := fun _ => True) (W' := fun _ => False) (((clone32 (R := fun _ => True) (W := fun _ => False) (S := S) (L := L) ?_ (fun _ _ => trivial) (by have := hf.1; omega)).kept).foot (fun _ h => h) (fun _ h => h)) ?_
   ·exact LRs.old hv fun b hb => by rw [kG b (by omega), hkg b hb]
   rintro s h3 ⟨⟨hs, hk3⟩, vf3⟩
   have hn3 := vf3.n
   simp only [Heap.n_set, Heap.n_push] at hn3
   have k3 : ∀ b, b < g.n → h3.get b = g.get b := fun b hb => by rw [hk3 b (by simp only [Heap.n_set, Heap.n_push]; omega), kG b hb]
   have hso : s.one = true := hs.lr.one
   have hsc : s.cellsV = [s] := hs.lr.cells
   have m1' : (h3.push (.cells (Blk.of [s, .slice none 0 0 true, .slice none 0 0 true, .slice none 0 0 true, .slice none 0 0 true, .slice none 0 0 true, .slice none 0 0 true, .slice none 0 0 true, .slice none 0 0 true, .int .i64 0, .int .i64 0, .int .i64 0]) 82)).get mp = some (.map es ck) := by rw [w_push_ne (by omega), k3 mp hmp]; exact m1
   obtain ⟨es', ck', hu, u1, u2, _⟩ := upd_pair Try.underlying66 pk_75 m1' m2 ((A : Int), (i : Int)) (.ptr (some (h3.n, 0)))
   have hu' : updV Try.prog 66 (h3.push (.cells (Blk.of [s, .slice none 0 0 true, .slice none 0 0 true, .slice none 0 0 true, .slice none 0 0 true, .slice none 0 0 true, .slice none 0 0 true, .slice none 0 0 true, .slice none 0 0 true, .int .i64 0, .int .i64 0, .int .i64 0]) 82)) (.map (some mp)) (.agg [.int .i64 (A : Int), .int .i64 (i : Int)]) (.ptr (some (h3.n, 0))) = _ := hu
   have hWm : h1.n ≤ mp ∨ W mp := .inr (hW mp (.inl rfl))
   simp -implicitDefEqProofs (disch := (first | omega | (simp -implicitDefEqProofs only [szs, ne_eq] <;> omega) | fail)) only [go_sem, seval, ↓reduceIte, undefV, ↓hsc, hu', hWm]
   refine ⟨?_, ⟨fun _ => .inr (hR pp), fun _ => .inr (hR _), fun b _ _ => .inr (hR b), fun b _ h => h.elim⟩, by omega, by rw [hcl, hfr], .inr ⟨i, h3.n, by rw [hcl, hfr], hf, hT, by omega, ?_⟩⟩
   ·simp only [List.not_mem_nil, or_false, false_or, and_false, false_implies, implies_true, not_false_eq_true, List.mem_cons, and_true]
    try and_intros
    all_goals (intros; omega)
   obtain ⟨cB, hcB⟩ : ∃ cB, cB = Blk.of [s, .slice none 0 0 true, .slice none 0 0 true, .slice none 0 0 true, .slice none 0 0 true, .slice none 0 0 true, .slice none 0 0 true, .slice none 0 0 true, .slice none 0 0 true, .int .i64 0, .int .i64 0, .int .i64 0] := ⟨_, rfl⟩
   rw [← hcB]
   have hmp3 : mp < h3.n := by omega
   have km : ((h3.push (O.cells cB 82)).set mp (O.map es' ck')).get mp = some (.map es' ck') := w_set_eq (by simp only [Heap.n_push]; omega) rfl _
   have kb : ((h3.push (O.cells cB 82)).set mp (O.map es' ck')).get h3.n = some (.cells cB 82) := by rw [w_set_ne (by simp only [Heap.n_push]; omega) (by omega)]; exact w_push_eq rfl _
   have ko : ∀ b, b < h3.n → b ≠ mp → ((h3.push (O.cells cB 82)).set mp (O.map es' ck')).get b = h3.get b := fun b hb hne => by rw [w_set_ne (by simp only [Heap.n_push]; omega) hne, w_push_ne (by omega)]
   generalize (h3.push (O.cells cB 82)).set mp (O.map es' ck') = g5 at km kb ko ⊢
   have kold : ∀ k, k < h1.n → k ≠ mp → g5.get k = h1.get k := fun k hk hne => by rw [ko k (by omega) hne, k3 k (by omega), hkg k hk]
   have hI' : ∀ b, I b → I b ∨ Fresh h1 g5 79 b := fun b hb => .inl hb
   refine ⟨hp.add hT ⟨Q, hq, hin⟩ hI' kold km u1 (fun k => by rw [u2, m3]) (by omega) ⟨⟨cB, 0, kb, by rw [hcB]; rfl, by rw [hcB]; rfl, ?_, by omega, by rw [hcB]; rfl, by rw [hcB]; rfl, by rw [hcB]; rfl, fun j hj => by simp at hj, fun j hj => ⟨[], .inl ⟨rfl, .inl ?_⟩⟩⟩, by simp⟩ (fun k hk => hk.imp id fun h => ⟨h.2.choose, 79, h.2.choose_spec, by decide⟩), kold⟩
   ·rw [hcB]
    show LRs 3 g5 _ s L.length (flatT L)
    have hmne : ∀ b, (∃ c, h3.get b = some (.cells c 79)) → b ≠ mp := fun b ⟨c, h⟩ e => by rw [e, k3 mp hmp, m1] at h; cases h
    refine (hs.lrf.same fun b h4 h5 => ko b h5 (hmne b h4.2)).mono fun b h5 h4 => .inr ⟨?_, ?_⟩
    ·have := h4.1
     simp only [Heap.n_set, Heap.n_push] at this
     omega
    ·obtain ⟨c, h6⟩ := h4.2
     exact ⟨c, by rw [ko b (Heap.lt_of_get h6) (hmne b h4.2)]; exact h6⟩
   ·rw [hcB]
    rcases (show j = 0 ∨ j = 1 ∨ j = 2 ∨ j = 3 ∨ j = 4 ∨ j = 5 ∨ j = 6 ∨ j = 7 by omega) with rfl | rfl | rfl | rfl | rfl | rfl | rfl | rfl <;> rfl
 ·obtain rfl : k = 0 := by omega
  simp -implicitDefEqProofs (disch := (first | omega | (simp -implicitDefEqProofs only [szs, ne_eq] <;> omega) | fail)) only [go_sem, seval, ↓reduceIte, ir10_l0, t29, t30]
  rw [hcl, hfr]
  exact ⟨by omega, rfl, .inl ⟨(show (5 : Int) ≠ 0 by decide), hkg⟩⟩
end Go.Proofs.Ytmimialblhlklaa
