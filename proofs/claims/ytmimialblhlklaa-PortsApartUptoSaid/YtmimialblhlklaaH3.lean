/- Two machines side by side; alike. -/
import Derived.Test.YtmimialblhlklaaH0
set_option linter.unusedVariables false
set_option linter.unusedSimpArgs false
set_option linter.unusedSimpArgs false
set_option maxRecDepth 100000
set_option linter.unusedVariables false
set_option linter.unusedSimpArgs false
namespace Go.Proofs.Ytmimialblhlklaa
open Go Go.Vm
variable {R W : Set'}
structure Two (hb g : Heap) (p q : Nat) (qs : List Nat) (Mp Mq : Set') (S S' : AT) : Prop where
  p : PX g Mp p qs S
  q : PX g Mq q qs S'
  mp : ∀ k, Mp k → hb.n ≤ k
  mq : ∀ k, Mq k → hb.n ≤ k
  dis : ∀ k, Mp k → ¬ Mq k
  n : hb.n ≤ g.n
  old : ∀ k, k < hb.n → g.get k = hb.get k
theorem Two.push {hb g g' : Heap} {p q : Nat} {qs : List Nat} {Mp Mq : Set'} {S S' : AT} (t : Two hb g p q qs Mp Mq S S') (hn : g.n ≤ g'.n) (hk : ∀ k, k < g.n → g'.get k = g.get k) : Two hb g' p q qs Mp Mq S S' :=
  ⟨t.p.old hn hk, t.q.old hn hk, t.mp, t.mq, t.dis, Nat.le_trans t.n hn, fun k h => by rw [hk k (by have := t.n; omega)]; exact t.old k h⟩
theorem Two.left {hb g g' : Heap} {p q : Nat} {qs : List Nat} {Mp Mq : Set'} {S S' S2 : AT} (t : Two hb g p q qs Mp Mq S S') (hq : PXQ g g' Mp p qs S2) : ∃ M', Two hb g' p q qs M' Mq S2 S' := by
  obtain ⟨hc, M', hx, hm⟩ := hq
  have hcn := hc.n
  have htn := t.n
  refine ⟨M', hx, t.q.fr hc fun k h h2 => t.dis k h2.1 h, fun k h => (hm k h).elim (t.mp k) fun h => by omega, t.mq, fun k h h2 => (hm k h).elim (fun h3 => t.dis k h3 h2) fun h3 => by have := t.q.lt k h2; omega, by omega, fun k h => ?_⟩
  rw [hc.k k (by omega) fun h2 => by have := t.mp k h2.1; omega]
  exact t.old k h
theorem Two.right {hb g g' : Heap} {p q : Nat} {qs : List Nat} {Mp Mq : Set'} {S S' S2 : AT} (t : Two hb g p q qs Mp Mq S S') (hq : PXQ g g' Mq q qs S2) : ∃ M', Two hb g' p q qs Mp M' S S2 := by
  obtain ⟨hc, M', hx, hm⟩ := hq
  have hcn := hc.n
  have htn := t.n
  refine ⟨M', t.p.fr hc fun k h h2 => t.dis k h h2.1, hx, t.mp, fun k h => (hm k h).elim (t.mq k) fun h => by omega, fun k h h2 => (hm k h2).elim (fun h3 => t.dis k h h3) fun h3 => by have := t.p.lt k h; omega, by omega, fun k h => ?_⟩
  rw [hc.k k (by omega) fun h2 => by have := t.mq k h2.1; omega]
  exact t.old k h
theorem StepIs.at' {hb g : Heap} {vf vp : V} {L : List Te} {l : List V} (hs : StepIs hb vf vp L l) (hold : ∀ k, k < hb.n → g.get k = hb.get k) : TestsV g (fun k => k < hb.n) vf L ∧ LR g (fun k => k < hb.n) vp l ∧ Byt l := ⟨LRs.old hs.1 hold, hs.2.1.old hold, hs.2.2⟩
theorem lost_d {g : Heap} {M : Set'} {pp : Nat} {qs : List Nat} {S : AT} {R W : Set'} (hx : PX g M pp qs S) (hR : ∀ b, R b) (a n : Int) : SF Try.prog 26 [.ptr (some (pp, 0)), .int .i64 a, .int .i64 n] g R W fun r g' => r = .int .i64 (((lookA S a n).map fun x => x.lost).getD 0) ∧ g' = g := by
  obtain ⟨⟨I, mp, T, hp, rfl, hm⟩, hF, hl⟩ := hx
  refine (lost_ok hp hR a n).mono ?_
  rintro r g' ⟨rfl, rfl⟩
  rw [lookA_abs, Option.map_map]
  exact ⟨rfl, rfl⟩
theorem len_d {g : Heap} {M : Set'} {pp : Nat} {qs : List Nat} {S : AT} {R W : Set'} (hx : PX g M pp qs S) (hR : ∀ b, R b) (a n : Int) : SF Try.prog 13 [.ptr (some (pp, 0)), .int .i64 a, .int .i64 n] g R W fun r g' => r = .int .i64 (((lookA S a n).map fun x => (x.ring.length : Int)).getD 0) ∧ g' = g := by
  obtain ⟨⟨I, mp, T, hp, rfl, hm⟩, hF, hl⟩ := hx
  refine (len_ok hp hR a n).mono ?_
  rintro r g' ⟨rfl, rfl⟩
  rw [lookA_abs, Option.map_map]
  exact ⟨rfl, rfl⟩
theorem comeP_len (S : AT) (a : Nat) (l : List V) (P : List Nat) : (comeP S a l P).length ≤ P.length := by
  unfold comeP
  induction P with
  | nil => simp
  | cons n P ih =>
    rw [List.flatMap_cons, List.length_append, List.length_cons]
    cases S a n with
    | none => simp only [List.length_nil]; omega
    | some x =>
      simp only []
      split
      · simp only [List.length_cons, List.length_nil]; omega
      · simp only [List.length_nil]; omega
theorem openA_len (S : AT) (a : Int) : (openA S a).length ≤ 16 := by
  have := List.length_filter_le (fun n : Nat => (lookA S a (n : Int)).isSome) (List.range 16)
  unfold openA; simpa using this
theorem comeLA_len (S : AT) (l : List V) : (comeLA S l).length ≤ 16 := by
  unfold comeLA
  split
  · simp
  · cases homeP l with
    | none => simp
    | some a => exact Nat.le_trans (comeP_len S a l _) (openA_len S _)
theorem takeB_byt {S : AT} (hF : FitA S) (a n : Int) : Byt (takeB S a n) := by
  unfold takeB
  cases h : lookA S a n with
  | none => exact fun v hv => by cases hv
  | some x =>
    have hx : S a.toNat n.toNat = some x := by
      unfold lookA at h
      split at h
      · exact h
      · cases h
    show Byt (x.ring.headD [])
    cases hr : x.ring with
    | nil => exact fun v hv => by cases hv
    | cons l t => exact ((hF _ _ _ hx).2 l (by rw [hr]; simp)).1
set_option maxHeartbeats 8000000 in
theorem alike_ok {hb g : Heap} {p q : Nat} {qs : List Nat} {Mp Mq : Set'} {S S' : AT} {kd a n : Int} {vf vp : V} {L : List Te} {l : List V} (t : Two hb g p q qs Mp Mq S S') (h1 : S 1 = S' 1) (hs : StepIs hb vf vp L l) (hR : ∀ b, R b) (hW : ∀ b, hb.n ≤ b → W b) : SF ⟨Try.prog, true⟩ 18 [.ptr (some (p, 0)), .ptr (some (q, 0)), .agg [.int .i64 kd, .int .i64 a, .int .i64 n, vf, vp]] g R W fun r g' => r = .bool true ∧ ∃ Mp' Mq' S2 S2', Two hb g' p q qs Mp' Mq' S2 S2' ∧ S2 1 = S2' 1 := by
  have hfo := LRs.one hs.1
  have hfc := LRs.cells hs.1
  have hpo := hs.2.1.one
  have hpc := hs.2.1.cells
  have hRR : ∀ b, g.n ≤ b ∨ R b := fun b => .inr (hR b)
  have hWp : ∀ {M : Set'}, (∀ k, M k → hb.n ≤ k) → ∀ b, M b → g.n ≤ b ∨ W b := fun hM b h => .inr (hW b (hM b h))
  have htn := t.n
  refine SF.go hm Try.func18 ir18_eq ?_
  simp -implicitDefEqProofs (disch := (first | omega | (simp -implicitDefEqProofs only [szs, ne_eq] <;> omega) | fail)) only [go_sem, Nat.reduceAdd, Nat.reduceSub, Nat.reduceMul, Nat.reduceLT, Nat.reduceMod, Nat.reduceDiv, Nat.reduceEqDiff, Nat.reduceBEq, Nat.reduceLeDiff, ↓reduceIte, reduceCtorEq, Int.reduceAdd, Int.reduceSub, Int.reduceLT, Int.reduceLE, Int.reduceBEq, Int.reduceEq, Int.reduceToNat, ir18, undefV, ↓hfo, ↓hpo]
  obtain ⟨g0, e0, n0, b0, k0⟩ : ∃ g0, g.push (O.cells (Blk.of [V.int .i64 kd, V.int .i64 a, V.int .i64 n, vf, vp]) 49) = g0 ∧ g0.n = g.n + 1 ∧ g0.get g.n = some (O.cells (Blk.of [V.int .i64 kd, V.int .i64 a, V.int .i64 n, vf, vp]) 49) ∧ ∀ b, b < g.n → g0.get b = g.get b := ⟨_, rfl, by simp, w_push_eq rfl _, fun b hb => w_push_ne (by omega) _⟩
  rw [e0]
  have t0 := t.push (g' := g0) (by omega) k0
  obtain ⟨hf0, hp0, hby⟩ := hs.at' t0.old
  have hRg := hR g.n
  refine GCall.of (home_ok hp0 hby hRR).any ?_
  rintro r g0 ⟨rfl, rfl⟩
  obtain ⟨hm7, hm8, hhv, hh1⟩ : ∃ (x : Int) (y : Bool), homeV l = .tuple [.int .i64 x, .bool y] ∧ (homeP l = some 1 → x = 1) ∧ (homeP l ≠ some 1 → x ≠ 1) := by
    unfold homeV
    cases hh : homeP l with
    | none => exact ⟨0, false, rfl, fun h => (by cases h), fun _ => (by decide)⟩
    | some a => exact ⟨(a : Int), true, rfl, fun h => (by cases h; rfl), fun h e => h (by congr 1; omega)⟩
  rw [hhv]
  by_cases k1 : kd = 1
  · subst k1
    simp -implicitDefEqProofs (disch := (first | omega | (simp -implicitDefEqProofs only [szs, ne_eq] <;> omega) | fail)) only [go_sem, Nat.reduceAdd, Nat.reduceSub, Nat.reduceMul, Nat.reduceLT, Nat.reduceMod, Nat.reduceDiv, Nat.reduceEqDiff, Nat.reduceBEq, Nat.reduceLeDiff, ↓reduceIte, reduceCtorEq, Int.reduceAdd, Int.reduceSub, Int.reduceLT, Int.reduceLE, Int.reduceBEq, Int.reduceEq, Int.reduceToNat, undefV, b0, ↓hfo, ↓hpo]
    refine GCall.of (claim_px t0.p hf0 hRR (hWp t0.mp) 1) ?_
    rintro r g2 ⟨hq, rfl⟩
    obtain ⟨M2, t2⟩ := t0.left hq
    have b2 := hq.1.cells b0 (by decide)
    obtain ⟨hf2, _⟩ := hs.at' t2.old
    simp -implicitDefEqProofs (disch := (first | omega | (simp -implicitDefEqProofs only [szs, ne_eq] <;> omega) | fail)) only [go_sem, Nat.reduceAdd, Nat.reduceSub, Nat.reduceMul, Nat.reduceLT, Nat.reduceMod, Nat.reduceDiv, Nat.reduceEqDiff, Nat.reduceBEq, Nat.reduceLeDiff, ↓reduceIte, reduceCtorEq, Int.reduceAdd, Int.reduceSub, Int.reduceLT, Int.reduceLE, Int.reduceBEq, Int.reduceEq, Int.reduceToNat, undefV, b2, ↓hfo, ↓hpo]
    refine GCall.of (claim_px t2.q hf2 hRR (hWp t2.mq) 1) ?_
    rintro r g3 ⟨hq3, rfl⟩
    obtain ⟨M3, t3⟩ := t2.right hq3
    have hcv := claimV_1 (qs := qs) h1 L
    rw [hcv]
    have hx := claimA_1 (qs := qs) h1 L
    simp -implicitDefEqProofs (disch := (first | omega | (simp -implicitDefEqProofs only [szs, ne_eq] <;> omega) | fail)) only [go_sem, Nat.reduceAdd, Nat.reduceSub, Nat.reduceMul, Nat.reduceLT, Nat.reduceMod, Nat.reduceDiv, Nat.reduceEqDiff, Nat.reduceBEq, Nat.reduceLeDiff, ↓reduceIte, reduceCtorEq, Int.reduceAdd, Int.reduceSub, Int.reduceLT, Int.reduceLE, Int.reduceBEq, Int.reduceEq, Int.reduceToNat, undefV]
    refine GCall.of (num_ok _).any ?_
    rintro r g3 ⟨rfl, rfl⟩
    simp -implicitDefEqProofs (disch := (first | omega | (simp -implicitDefEqProofs only [szs, ne_eq] <;> omega) | fail)) only [go_sem, Nat.reduceAdd, Nat.reduceSub, Nat.reduceMul, Nat.reduceLT, Nat.reduceMod, Nat.reduceDiv, Nat.reduceEqDiff, Nat.reduceBEq, Nat.reduceLeDiff, ↓reduceIte, reduceCtorEq, Int.reduceAdd, Int.reduceSub, Int.reduceLT, Int.reduceLE, Int.reduceBEq, Int.reduceEq, Int.reduceToNat, undefV]
    refine GCall.of (num_ok _).any ?_
    rintro r g3 ⟨rfl, rfl⟩
    simp -implicitDefEqProofs (disch := (first | omega | (simp -implicitDefEqProofs only [szs, ne_eq] <;> omega) | fail)) only [go_sem, Nat.reduceAdd, Nat.reduceSub, Nat.reduceMul, Nat.reduceLT, Nat.reduceMod, Nat.reduceDiv, Nat.reduceEqDiff, Nat.reduceBEq, Nat.reduceLeDiff, ↓reduceIte, reduceCtorEq, Int.reduceAdd, Int.reduceSub, Int.reduceLT, Int.reduceLE, Int.reduceBEq, Int.reduceEq, Int.reduceToNat, undefV]
    exact ⟨_, _, _, _, t3, hx⟩
  by_cases k2 : kd = 2
  · subst k2
    simp -implicitDefEqProofs (disch := (first | omega | (simp -implicitDefEqProofs only [szs, ne_eq] <;> omega) | fail)) only [go_sem, Nat.reduceAdd, Nat.reduceSub, Nat.reduceMul, Nat.reduceLT, Nat.reduceMod, Nat.reduceDiv, Nat.reduceEqDiff, Nat.reduceBEq, Nat.reduceLeDiff, ↓reduceIte, reduceCtorEq, Int.reduceAdd, Int.reduceSub, Int.reduceLT, Int.reduceLE, Int.reduceBEq, Int.reduceEq, Int.reduceToNat, undefV, b0, ↓hfo, ↓hpo]
    refine GCall.of (close_px t0.p hRR (hWp t0.mp) 1 n) ?_
    rintro r g2 ⟨hq, rfl⟩
    obtain ⟨M2, t2⟩ := t0.left hq
    have b2 := hq.1.cells b0 (by decide)
    simp -implicitDefEqProofs (disch := (first | omega | (simp -implicitDefEqProofs only [szs, ne_eq] <;> omega) | fail)) only [go_sem, Nat.reduceAdd, Nat.reduceSub, Nat.reduceMul, Nat.reduceLT, Nat.reduceMod, Nat.reduceDiv, Nat.reduceEqDiff, Nat.reduceBEq, Nat.reduceLeDiff, ↓reduceIte, reduceCtorEq, Int.reduceAdd, Int.reduceSub, Int.reduceLT, Int.reduceLE, Int.reduceBEq, Int.reduceEq, Int.reduceToNat, undefV, b2, ↓hfo, ↓hpo]
    refine GCall.of (close_px t2.q hRR (hWp t2.mq) 1 n) ?_
    rintro r g3 ⟨hq3, rfl⟩
    obtain ⟨M3, t3⟩ := t2.right hq3
    have hcv := closeV_1 (qs := qs) h1 n
    rw [hcv]
    have hx := closeA_1 h1 n
    simp -implicitDefEqProofs (disch := (first | omega | (simp -implicitDefEqProofs only [szs, ne_eq] <;> omega) | fail)) only [go_sem, Nat.reduceAdd, Nat.reduceSub, Nat.reduceMul, Nat.reduceLT, Nat.reduceMod, Nat.reduceDiv, Nat.reduceEqDiff, Nat.reduceBEq, Nat.reduceLeDiff, ↓reduceIte, reduceCtorEq, Int.reduceAdd, Int.reduceSub, Int.reduceLT, Int.reduceLE, Int.reduceBEq, Int.reduceEq, Int.reduceToNat, undefV]
    refine GCall.of (num_ok _).any ?_
    rintro r g3 ⟨rfl, rfl⟩
    simp -implicitDefEqProofs (disch := (first | omega | (simp -implicitDefEqProofs only [szs, ne_eq] <;> omega) | fail)) only [go_sem, Nat.reduceAdd, Nat.reduceSub, Nat.reduceMul, Nat.reduceLT, Nat.reduceMod, Nat.reduceDiv, Nat.reduceEqDiff, Nat.reduceBEq, Nat.reduceLeDiff, ↓reduceIte, reduceCtorEq, Int.reduceAdd, Int.reduceSub, Int.reduceLT, Int.reduceLE, Int.reduceBEq, Int.reduceEq, Int.reduceToNat, undefV]
    refine GCall.of (num_ok _).any ?_
    rintro r g3 ⟨rfl, rfl⟩
    simp -implicitDefEqProofs (disch := (first | omega | (simp -implicitDefEqProofs only [szs, ne_eq] <;> omega) | fail)) only [go_sem, Nat.reduceAdd, Nat.reduceSub, Nat.reduceMul, Nat.reduceLT, Nat.reduceMod, Nat.reduceDiv, Nat.reduceEqDiff, Nat.reduceBEq, Nat.reduceLeDiff, ↓reduceIte, reduceCtorEq, Int.reduceAdd, Int.reduceSub, Int.reduceLT, Int.reduceLE, Int.reduceBEq, Int.reduceEq, Int.reduceToNat, undefV]
    exact ⟨_, _, _, _, t3, hx⟩
  by_cases k3 : kd = 3
  · subst k3
    by_cases hh : homeP l = some 1
    · obtain rfl := hh1.1 hh
      simp -implicitDefEqProofs (disch := (first | omega | (simp -implicitDefEqProofs only [szs, ne_eq] <;> omega) | fail)) only [go_sem, Nat.reduceAdd, Nat.reduceSub, Nat.reduceMul, Nat.reduceLT, Nat.reduceMod, Nat.reduceDiv, Nat.reduceEqDiff, Nat.reduceBEq, Nat.reduceLeDiff, ↓reduceIte, reduceCtorEq, Int.reduceAdd, Int.reduceSub, Int.reduceLT, Int.reduceLE, Int.reduceBEq, Int.reduceEq, Int.reduceToNat, undefV, b0, ↓hfo, ↓hpo]
      refine GCall.of (come_px (S0 := fun k => k < hb.n) t0.p hp0 (fun k hk => ⟨by have : k < hb.n := hk; omega, fun h => by have := t0.mp k h.1; have : k < hb.n := hk; omega⟩) hby hRR (fun b h => h.elim (fun h => .inl (by omega)) (hWp t0.mp b))) ?_
      rintro r g2 ⟨hq, w2, rfl, hw2⟩
      obtain ⟨M2, t2⟩ := t0.left hq
      have b2 := hq.1.cells b0 (by decide)
      have n2 := hq.1.n
      obtain ⟨_, hp2, _⟩ := hs.at' t2.old
      simp -implicitDefEqProofs (disch := (first | omega | (simp -implicitDefEqProofs only [szs, ne_eq] <;> omega) | fail)) only [go_sem, Nat.reduceAdd, Nat.reduceSub, Nat.reduceMul, Nat.reduceLT, Nat.reduceMod, Nat.reduceDiv, Nat.reduceEqDiff, Nat.reduceBEq, Nat.reduceLeDiff, ↓reduceIte, reduceCtorEq, Int.reduceAdd, Int.reduceSub, Int.reduceLT, Int.reduceLE, Int.reduceBEq, Int.reduceEq, Int.reduceToNat, undefV, b2, ↓hfo, ↓hpo]
      refine GCall.of (come_px (S0 := fun k => k < hb.n) t2.q hp2 (fun k hk => ⟨by have : k < hb.n := hk; omega, fun h => by have := t2.mq k h.1; have : k < hb.n := hk; omega⟩) hby hRR (fun b h => h.elim (fun h => .inl (by omega)) (hWp t2.mq b))) ?_
      rintro r g3 ⟨hq3, w3, rfl, hw3⟩
      obtain ⟨M3, t3⟩ := t2.right hq3
      rw [← comeLA_1 h1 hh] at hw3
      have hw2' := hw2.keep fun b c h _ => hq3.1.cells h (by decide)
      have hx := comeA_1 h1 hh
      have hcl : (comeLA S l).length ≤ 1000000 := Nat.le_trans (comeLA_len S l) (by decide)
      simp -implicitDefEqProofs (disch := (first | omega | (simp -implicitDefEqProofs only [szs, ne_eq] <;> omega) | fail)) only [go_sem, Nat.reduceAdd, Nat.reduceSub, Nat.reduceMul, Nat.reduceLT, Nat.reduceMod, Nat.reduceDiv, Nat.reduceEqDiff, Nat.reduceBEq, Nat.reduceLeDiff, ↓reduceIte, reduceCtorEq, Int.reduceAdd, Int.reduceSub, Int.reduceLT, Int.reduceLE, Int.reduceBEq, Int.reduceEq, Int.reduceToNat, undefV]
      refine GCall.of (samecame_ok hw2'.lr hw3.lr hRR hcl).any ?_
      rintro r g3 ⟨rfl, rfl⟩
      rw [decide_eq_true rfl]
      simp -implicitDefEqProofs (disch := (first | omega | (simp -implicitDefEqProofs only [szs, ne_eq] <;> omega) | fail)) only [go_sem, Nat.reduceAdd, Nat.reduceSub, Nat.reduceMul, Nat.reduceLT, Nat.reduceMod, Nat.reduceDiv, Nat.reduceEqDiff, Nat.reduceBEq, Nat.reduceLeDiff, ↓reduceIte, reduceCtorEq, Int.reduceAdd, Int.reduceSub, Int.reduceLT, Int.reduceLE, Int.reduceBEq, Int.reduceEq, Int.reduceToNat, undefV]
      refine GCall.of (num_ok _).any ?_
      rintro r g3 ⟨rfl, rfl⟩
      simp -implicitDefEqProofs (disch := (first | omega | (simp -implicitDefEqProofs only [szs, ne_eq] <;> omega) | fail)) only [go_sem, Nat.reduceAdd, Nat.reduceSub, Nat.reduceMul, Nat.reduceLT, Nat.reduceMod, Nat.reduceDiv, Nat.reduceEqDiff, Nat.reduceBEq, Nat.reduceLeDiff, ↓reduceIte, reduceCtorEq, Int.reduceAdd, Int.reduceSub, Int.reduceLT, Int.reduceLE, Int.reduceBEq, Int.reduceEq, Int.reduceToNat, undefV]
      refine GCall.of (num_ok _).any ?_
      rintro r g3 ⟨rfl, rfl⟩
      simp -implicitDefEqProofs (disch := (first | omega | (simp -implicitDefEqProofs only [szs, ne_eq] <;> omega) | fail)) only [go_sem, Nat.reduceAdd, Nat.reduceSub, Nat.reduceMul, Nat.reduceLT, Nat.reduceMod, Nat.reduceDiv, Nat.reduceEqDiff, Nat.reduceBEq, Nat.reduceLeDiff, ↓reduceIte, reduceCtorEq, Int.reduceAdd, Int.reduceSub, Int.reduceLT, Int.reduceLE, Int.reduceBEq, Int.reduceEq, Int.reduceToNat, undefV]
      exact ⟨_, _, _, _, t3, hx⟩
    · have hne := hh1.2 hh
      have hnb : (hm7 != 1) = true := by simpa using hne
      simp -implicitDefEqProofs (disch := (first | omega | (simp -implicitDefEqProofs only [szs, ne_eq] <;> omega) | fail)) only [go_sem, Nat.reduceAdd, Nat.reduceSub, Nat.reduceMul, Nat.reduceLT, Nat.reduceMod, Nat.reduceDiv, Nat.reduceEqDiff, Nat.reduceBEq, Nat.reduceLeDiff, ↓reduceIte, reduceCtorEq, Int.reduceAdd, Int.reduceSub, Int.reduceLT, Int.reduceLE, Int.reduceBEq, Int.reduceEq, Int.reduceToNat, undefV, b0, ↓hfo, ↓hpo, hnb]
      exact ⟨_, _, _, _, t0, h1⟩
  by_cases k4 : kd = 4
  · subst k4
    simp -implicitDefEqProofs (disch := (first | omega | (simp -implicitDefEqProofs only [szs, ne_eq] <;> omega) | fail)) only [go_sem, Nat.reduceAdd, Nat.reduceSub, Nat.reduceMul, Nat.reduceLT, Nat.reduceMod, Nat.reduceDiv, Nat.reduceEqDiff, Nat.reduceBEq, Nat.reduceLeDiff, ↓reduceIte, reduceCtorEq, Int.reduceAdd, Int.reduceSub, Int.reduceLT, Int.reduceLE, Int.reduceBEq, Int.reduceEq, Int.reduceToNat, undefV, b0, ↓hfo, ↓hpo]
    refine GCall.of (take_px t0.p hRR (hWp t0.mp) 1 n) ?_
    rintro r g2 ⟨hq, w2, rfl, hw2, _⟩
    obtain ⟨M2, t2⟩ := t0.left hq
    have b2 := hq.1.cells b0 (by decide)
    simp -implicitDefEqProofs (disch := (first | omega | (simp -implicitDefEqProofs only [szs, ne_eq] <;> omega) | fail)) only [go_sem, Nat.reduceAdd, Nat.reduceSub, Nat.reduceMul, Nat.reduceLT, Nat.reduceMod, Nat.reduceDiv, Nat.reduceEqDiff, Nat.reduceBEq, Nat.reduceLeDiff, ↓reduceIte, reduceCtorEq, Int.reduceAdd, Int.reduceSub, Int.reduceLT, Int.reduceLE, Int.reduceBEq, Int.reduceEq, Int.reduceToNat, undefV, b2, ↓hfo, ↓hpo]
    refine GCall.of (take_px t2.q hRR (hWp t2.mq) 1 n) ?_
    rintro r g3 ⟨hq3, w3, rfl, hw3, _⟩
    obtain ⟨M3, t3⟩ := t2.right hq3
    rw [← takeB_1 h1 n] at hw3
    rw [lookEA_1 (qs := qs) h1 n]
    have hw2' := hw2.keep fun b c h => hq3.1.cells h (by decide)
    have hx := takeA_1 h1 n
    have hbt : Byt (takeB S 1 n) := takeB_byt t.p.fit 1 n
    obtain ⟨rs2, hc2⟩ := conv_lr hw2'.lr hbt
    obtain ⟨rs3, hc3⟩ := conv_lr hw3.lr hbt
    have hr2 : allB (fun b => g.n ≤ b ∨ R b) rs2 := allB_of fun b _ => hRR b
    have hr3 : allB (fun b => g.n ≤ b ∨ R b) rs3 := allB_of fun b _ => hRR b
    have hse := sb_eql (strB (takeB S 1 n)) (strB (takeB S 1 n))
    rw [decide_eq_true rfl] at hse
    simp -implicitDefEqProofs (disch := (first | omega | (simp -implicitDefEqProofs only [szs, ne_eq] <;> omega) | fail)) only [go_sem, Nat.reduceAdd, Nat.reduceSub, Nat.reduceMul, Nat.reduceLT, Nat.reduceMod, Nat.reduceDiv, Nat.reduceEqDiff, Nat.reduceBEq, Nat.reduceLeDiff, ↓reduceIte, reduceCtorEq, Int.reduceAdd, Int.reduceSub, Int.reduceLT, Int.reduceLE, Int.reduceBEq, Int.reduceEq, Int.reduceToNat, undefV, ↓cvS, hc2, hc3, hr2, hr3, hse]
    refine GCall.of (num_ok _).any ?_
    rintro r g3 ⟨rfl, rfl⟩
    simp -implicitDefEqProofs (disch := (first | omega | (simp -implicitDefEqProofs only [szs, ne_eq] <;> omega) | fail)) only [go_sem, Nat.reduceAdd, Nat.reduceSub, Nat.reduceMul, Nat.reduceLT, Nat.reduceMod, Nat.reduceDiv, Nat.reduceEqDiff, Nat.reduceBEq, Nat.reduceLeDiff, ↓reduceIte, reduceCtorEq, Int.reduceAdd, Int.reduceSub, Int.reduceLT, Int.reduceLE, Int.reduceBEq, Int.reduceEq, Int.reduceToNat, undefV]
    refine GCall.of (num_ok _).any ?_
    rintro r g3 ⟨rfl, rfl⟩
    simp -implicitDefEqProofs (disch := (first | omega | (simp -implicitDefEqProofs only [szs, ne_eq] <;> omega) | fail)) only [go_sem, Nat.reduceAdd, Nat.reduceSub, Nat.reduceMul, Nat.reduceLT, Nat.reduceMod, Nat.reduceDiv, Nat.reduceEqDiff, Nat.reduceBEq, Nat.reduceLeDiff, ↓reduceIte, reduceCtorEq, Int.reduceAdd, Int.reduceSub, Int.reduceLT, Int.reduceLE, Int.reduceBEq, Int.reduceEq, Int.reduceToNat, undefV]
    exact ⟨_, _, _, _, t3, hx⟩
  simp -implicitDefEqProofs (disch := (first | omega | (simp -implicitDefEqProofs only [szs, ne_eq] <;> omega) | fail)) only [go_sem, Nat.reduceAdd, Nat.reduceSub, Nat.reduceMul, Nat.reduceLT, Nat.reduceMod, Nat.reduceDiv, Nat.reduceEqDiff, Nat.reduceBEq, Nat.reduceLeDiff, ↓reduceIte, reduceCtorEq, Int.reduceAdd, Int.reduceSub, Int.reduceLT, Int.reduceLE, Int.reduceBEq, Int.reduceEq, Int.reduceToNat, undefV, b0, ↓hfo, ↓hpo, k1, k2, k3, k4]
  have hll := lookA_one' (n := n) h1
  refine GCallD.of (R' := fun _ => True) (W' := fun _ => False) (lost_d (R := fun _ => True) (W := fun _ => False) t0.p (fun _ => trivial) 1 n) ?_
  rintro r g0 ⟨rfl, rfl⟩
  simp -implicitDefEqProofs (disch := (first | omega | (simp -implicitDefEqProofs only [szs, ne_eq] <;> omega) | fail)) only [go_sem, Nat.reduceAdd, Nat.reduceSub, Nat.reduceMul, Nat.reduceLT, Nat.reduceMod, Nat.reduceDiv, Nat.reduceEqDiff, Nat.reduceBEq, Nat.reduceLeDiff, ↓reduceIte, reduceCtorEq, Int.reduceAdd, Int.reduceSub, Int.reduceLT, Int.reduceLE, Int.reduceBEq, Int.reduceEq, Int.reduceToNat, undefV, b0, ↓hfo, ↓hpo]
  refine GCallD.of (R' := fun _ => True) (W' := fun _ => False) (lost_d (R := fun _ => True) (W := fun _ => False) t0.q (fun _ => trivial) 1 n) ?_
  rintro r g0 ⟨rfl, rfl⟩
  rw [← hll]
  simp -implicitDefEqProofs (disch := (first | omega | (simp -implicitDefEqProofs only [szs, ne_eq] <;> omega) | fail)) only [go_sem, Nat.reduceAdd, Nat.reduceSub, Nat.reduceMul, Nat.reduceLT, Nat.reduceMod, Nat.reduceDiv, Nat.reduceEqDiff, Nat.reduceBEq, Nat.reduceLeDiff, ↓reduceIte, reduceCtorEq, Int.reduceAdd, Int.reduceSub, Int.reduceLT, Int.reduceLE, Int.reduceBEq, Int.reduceEq, Int.reduceToNat, undefV, b0, ↓hfo, ↓hpo]
  refine GCallD.of (R' := fun _ => True) (W' := fun _ => False) (len_d (R := fun _ => True) (W := fun _ => False) t0.p (fun _ => trivial) 1 n) ?_
  rintro r g0 ⟨rfl, rfl⟩
  simp -implicitDefEqProofs (disch := (first | omega | (simp -implicitDefEqProofs only [szs, ne_eq] <;> omega) | fail)) only [go_sem, Nat.reduceAdd, Nat.reduceSub, Nat.reduceMul, Nat.reduceLT, Nat.reduceMod, Nat.reduceDiv, Nat.reduceEqDiff, Nat.reduceBEq, Nat.reduceLeDiff, ↓reduceIte, reduceCtorEq, Int.reduceAdd, Int.reduceSub, Int.reduceLT, Int.reduceLE, Int.reduceBEq, Int.reduceEq, Int.reduceToNat, undefV, b0, ↓hfo, ↓hpo]
  refine GCallD.of (R' := fun _ => True) (W' := fun _ => False) (len_d (R := fun _ => True) (W := fun _ => False) t0.q (fun _ => trivial) 1 n) ?_
  rintro r g0 ⟨rfl, rfl⟩
  rw [← hll]
  simp -implicitDefEqProofs (disch := (first | omega | (simp -implicitDefEqProofs only [szs, ne_eq] <;> omega) | fail)) only [go_sem, Nat.reduceAdd, Nat.reduceSub, Nat.reduceMul, Nat.reduceLT, Nat.reduceMod, Nat.reduceDiv, Nat.reduceEqDiff, Nat.reduceBEq, Nat.reduceLeDiff, ↓reduceIte, reduceCtorEq, Int.reduceAdd, Int.reduceSub, Int.reduceLT, Int.reduceLE, Int.reduceBEq, Int.reduceEq, Int.reduceToNat, undefV, b0, ↓hfo, ↓hpo]
  refine GCallD.of (R' := fun _ => True) (W' := fun _ => False) (open_d (R := fun _ => True) (W := fun _ => False) t0.p (fun _ => trivial) 1) ?_
  rintro r g2 ⟨n2, k2, ho2⟩
  have b2 := (k2 g.n (by omega)).trans b0
  have t2 := t0.push n2 k2
  simp -implicitDefEqProofs (disch := (first | omega | (simp -implicitDefEqProofs only [szs, ne_eq] <;> omega) | fail)) only [go_sem, Nat.reduceAdd, Nat.reduceSub, Nat.reduceMul, Nat.reduceLT, Nat.reduceMod, Nat.reduceDiv, Nat.reduceEqDiff, Nat.reduceBEq, Nat.reduceLeDiff, ↓reduceIte, reduceCtorEq, Int.reduceAdd, Int.reduceSub, Int.reduceLT, Int.reduceLE, Int.reduceBEq, Int.reduceEq, Int.reduceToNat, undefV, b2, ↓hfo, ↓hpo]
  refine GCallD.of (R' := fun _ => True) (W' := fun _ => False) (open_d (R := fun _ => True) (W := fun _ => False) t2.q (fun _ => trivial) 1) ?_
  rintro r2 g3 ⟨n3, k3, ho3⟩
  have t3 := t2.push n3 k3
  rw [← openA_1 h1] at ho3
  have hi := ho2.old k3
  have hmap : (openA S 1).map (fun n : Nat => V.int .i64 (n : Int)) = ((openA S 1).map fun n : Nat => (n : Int)).map (V.int .i64) := by rw [List.map_map]; rfl
  rw [hmap] at hi ho3
  simp -implicitDefEqProofs (disch := (first | omega | (simp -implicitDefEqProofs only [szs, ne_eq] <;> omega) | fail)) only [go_sem, Nat.reduceAdd, Nat.reduceSub, Nat.reduceMul, Nat.reduceLT, Nat.reduceMod, Nat.reduceDiv, Nat.reduceEqDiff, Nat.reduceBEq, Nat.reduceLeDiff, ↓reduceIte, reduceCtorEq, Int.reduceAdd, Int.reduceSub, Int.reduceLT, Int.reduceLE, Int.reduceBEq, Int.reduceEq, Int.reduceToNat, undefV]
  refine GCallD.of (R' := fun _ => True) (W' := fun _ => False) (sameints_ok (R := fun _ => True) (W := fun _ => False) hi.lr ho3.lr (fun _ => trivial) (by have := openA_len S 1; simp; omega)) ?_
  rintro r3 g3 ⟨rfl, rfl⟩
  rw [decide_eq_true rfl]
  simp -implicitDefEqProofs (disch := (first | omega | (simp -implicitDefEqProofs only [szs, ne_eq] <;> omega) | fail)) only [go_sem, Nat.reduceAdd, Nat.reduceSub, Nat.reduceMul, Nat.reduceLT, Nat.reduceMod, Nat.reduceDiv, Nat.reduceEqDiff, Nat.reduceBEq, Nat.reduceLeDiff, ↓reduceIte, reduceCtorEq, Int.reduceAdd, Int.reduceSub, Int.reduceLT, Int.reduceLE, Int.reduceBEq, Int.reduceEq, Int.reduceToNat, undefV]
  refine ⟨?_, ?_, _, _, _, _, t3, h1⟩
  · simp only [List.not_mem_nil, and_false, false_or, false_and, or_false, not_false_eq_true, implies_true, and_true, true_and, false_implies, and_self, true_implies]
    and_intros
    all_goals (intros; omega)
  · and_intros
    all_goals first | exact fun b _ _ => hRR b | exact fun b _ h => h.elim
end Go.Proofs.Ytmimialblhlklaa
