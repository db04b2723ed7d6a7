/- The document's Run (printed by genF2.py). -/
import Derived.Test.YtmkdbninmimndaaF1
set_option linter.unusedVariables false
set_option maxRecDepth 100000
namespace Go.Proofs.Ytmkdbninmimndaa
open Go Go.Vm
theorem puts_byt {L l : List V} {a : Nat} (hb : BytL L) (hl : ∀ k, ∃ n : Int, l.getD k undefV = .int .u8 n ∧ 0 ≤ n ∧ n ≤ 255 ∨ l.length ≤ k) : ∀ k, k ≤ l.length → BytL (puts L a l k)
  | 0, _ => hb
  | k + 1, hk => fun i hi => by
    rw [puts, List.length_set] at hi
    rw [puts]
    by_cases e : ad a k = i
    · subst e
      rw [List.getElem?_set_self hi]
      obtain ⟨n, ⟨h1, h2, h3⟩ | h⟩ := hl k
      · exact ⟨n, by rw [h1], h2, h3⟩
      · omega
    · rw [List.getElem?_set_ne e]
      exact puts_byt hb hl k (by omega) i hi
theorem byte_ok (v : BitVec 32) (i : Nat) : ∃ n : Int, byteAt v i = .int .u8 n ∧ 0 ≤ n ∧ n ≤ 255 := ⟨_, rfl, by omega, by omega⟩
theorem bytes4_ok (v : BitVec 32) : ∀ k, ∃ n : Int, (bytes4 v).getD k undefV = .int .u8 n ∧ 0 ≤ n ∧ n ≤ 255 ∨ (bytes4 v).length ≤ k := fun k => by
  by_cases h : k < 4
  · obtain ⟨n, h1⟩ := byte_ok v k
    exact ⟨n, .inl (by rw [bytes4_at v h]; exact h1)⟩
  · exact ⟨0, .inr (by show 4 ≤ k; omega)⟩
theorem byte1_ok (v : BitVec 32) : ∀ k, ∃ n : Int, [byteAt v 0].getD k undefV = .int .u8 n ∧ 0 ≤ n ∧ n ≤ 255 ∨ [byteAt v 0].length ≤ k := fun k => by
  by_cases h : k < 1
  · obtain rfl : k = 0 := by omega
    obtain ⟨n, h1⟩ := byte_ok v 0
    exact ⟨n, .inl h1⟩
  · exact ⟨0, .inr (by show 1 ≤ k; omega)⟩
theorem execO_keep {q : Nat → Int} {L L' : List V} {rs rs' : Regs} {pc pc' : BitVec 32} {op d a b : Nat} {m : Int} (h : execO q L rs pc op d a b m = .go rs' pc' L') (hb : BytL L) : L'.length = L.length ∧ BytL L' := by
  unfold execO at h
  dsimp only at h
  by_cases e1 : op = 1
  · rw [if_pos e1] at h
    cases h; exact ⟨rfl, hb⟩
  rw [if_neg e1] at h
  by_cases e2 : op = 2
  · rw [if_pos e2] at h
    cases h
  rw [if_neg e2] at h
  by_cases e4 : op = 4
  · rw [if_pos e4] at h
    cases h
  rw [if_neg e4] at h
  by_cases e3 : op = 3
  · rw [if_pos e3] at h
    cases h
  rw [if_neg e3] at h
  by_cases e5 : op = 5
  · rw [if_pos e5] at h
    cases h; exact ⟨rfl, hb⟩
  rw [if_neg e5] at h
  by_cases e6 : op = 6
  · rw [if_pos e6] at h
    cases h; exact ⟨rfl, hb⟩
  rw [if_neg e6] at h
  by_cases e7 : op = 7
  · rw [if_pos e7] at h
    cases h; exact ⟨rfl, hb⟩
  rw [if_neg e7] at h
  by_cases e18 : op = 18
  · rw [if_pos e18] at h
    cases h; exact ⟨rfl, hb⟩
  rw [if_neg e18] at h
  by_cases e19 : op = 19
  · rw [if_pos e19] at h
    split at h
    · cases h
    · cases h; exact ⟨rfl, hb⟩
  rw [if_neg e19] at h
  by_cases e21 : op = 21
  · rw [if_pos e21] at h
    split at h
    · cases h
    · cases h; exact ⟨rfl, hb⟩
  rw [if_neg e21] at h
  by_cases e20 : op = 20
  · rw [if_pos e20] at h
    split at h
    · cases h
    · cases h; exact ⟨puts_len _ _ _ _, puts_byt hb (bytes4_ok _) 4 (Nat.le_refl _)⟩
  rw [if_neg e20] at h
  by_cases e22 : op = 22
  · rw [if_pos e22] at h
    split at h
    · cases h
    · cases h; exact ⟨puts_len _ _ _ _, puts_byt hb (byte1_ok _) 1 (Nat.le_refl _)⟩
  rw [if_neg e22] at h
  by_cases e25 : op = 25
  · rw [if_pos e25] at h
    cases h; exact ⟨rfl, hb⟩
  rw [if_neg e25] at h
  by_cases e23 : op = 23
  · rw [if_pos e23] at h
    cases h; exact ⟨rfl, hb⟩
  rw [if_neg e23] at h
  by_cases e24 : op = 24
  · rw [if_pos e24] at h
    cases h; exact ⟨rfl, hb⟩
  rw [if_neg e24] at h
  by_cases e26 : op = 26
  · rw [if_pos e26] at h
    cases h; exact ⟨rfl, hb⟩
  rw [if_neg e26] at h
  by_cases e27 : op = 27
  · rw [if_pos e27] at h
    cases h; exact ⟨rfl, hb⟩
  rw [if_neg e27] at h
  by_cases e28 : op = 28
  · rw [if_pos e28] at h
    cases h; exact ⟨rfl, hb⟩
  rw [if_neg e28] at h
  split at h
  · cases h
  · cases h; exact ⟨rfl, hb⟩
theorem stepO_keep {q : Nat → Int} {L L' : List V} {rs rs' : Regs} {pc pc' : BitVec 32} (h : stepO q L rs pc = .go rs' pc' L') (hb : BytL L) : L'.length = L.length ∧ BytL L' := by
  unfold stepO at h
  by_cases h4 : pc.toNat % 4 = 0
  · rw [if_pos h4] at h
    split at h
    · cases h
    · by_cases ha : accW (wN L pc.toNat) = true
      · rw [if_pos ha] at h; exact execO_keep h hb
      · rw [if_neg ha] at h; cases h
  · rw [if_neg h4] at h; cases h
theorem execO_kind {q : Nat → Int} {L : List V} {rs : Regs} {pc : BitVec 32} {op d a b : Nat} {m : Int} {kd cl : Int} {at' : Nat} {nd : Int} (h : execO q L rs pc op d a b m = .stop kd cl at' nd) : kd ≠ 0 := by
  unfold execO at h
  dsimp only at h
  by_cases e1 : op = 1
  · rw [if_pos e1] at h
    cases h
  rw [if_neg e1] at h
  by_cases e2 : op = 2
  · rw [if_pos e2] at h
    cases h; decide
  rw [if_neg e2] at h
  by_cases e4 : op = 4
  · rw [if_pos e4] at h
    cases h; decide
  rw [if_neg e4] at h
  by_cases e3 : op = 3
  · rw [if_pos e3] at h
    cases h; decide
  rw [if_neg e3] at h
  by_cases e5 : op = 5
  · rw [if_pos e5] at h
    cases h
  rw [if_neg e5] at h
  by_cases e6 : op = 6
  · rw [if_pos e6] at h
    cases h
  rw [if_neg e6] at h
  by_cases e7 : op = 7
  · rw [if_pos e7] at h
    cases h
  rw [if_neg e7] at h
  by_cases e18 : op = 18
  · rw [if_pos e18] at h
    cases h
  rw [if_neg e18] at h
  by_cases e19 : op = 19
  · rw [if_pos e19] at h
    split at h
    · cases h; decide
    · cases h
  rw [if_neg e19] at h
  by_cases e21 : op = 21
  · rw [if_pos e21] at h
    split at h
    · cases h; decide
    · cases h
  rw [if_neg e21] at h
  by_cases e20 : op = 20
  · rw [if_pos e20] at h
    split at h
    · cases h; decide
    · cases h
  rw [if_neg e20] at h
  by_cases e22 : op = 22
  · rw [if_pos e22] at h
    split at h
    · cases h; decide
    · cases h
  rw [if_neg e22] at h
  by_cases e25 : op = 25
  · rw [if_pos e25] at h
    cases h
  rw [if_neg e25] at h
  by_cases e23 : op = 23
  · rw [if_pos e23] at h
    cases h
  rw [if_neg e23] at h
  by_cases e24 : op = 24
  · rw [if_pos e24] at h
    cases h
  rw [if_neg e24] at h
  by_cases e26 : op = 26
  · rw [if_pos e26] at h
    cases h
  rw [if_neg e26] at h
  by_cases e27 : op = 27
  · rw [if_pos e27] at h
    cases h
  rw [if_neg e27] at h
  by_cases e28 : op = 28
  · rw [if_pos e28] at h
    cases h
  rw [if_neg e28] at h
  split at h
  · cases h; decide
  · cases h
theorem stepO_kind {q : Nat → Int} {L : List V} {rs : Regs} {pc : BitVec 32} {kd cl : Int} {at' : Nat} {nd : Int} (h : stepO q L rs pc = .stop kd cl at' nd) : kd ≠ 0 := by
  unfold stepO at h
  by_cases h4 : pc.toNat % 4 = 0
  · rw [if_pos h4] at h
    split at h
    · cases h; decide
    · by_cases ha : accW (wN L pc.toNat) = true
      · rw [if_pos ha] at h; exact execO_kind h
      · rw [if_neg ha] at h; cases h; decide
  · rw [if_neg h4] at h; cases h; decide
theorem LV.keepb {h h' : Heap} {v : V} {l : List V} (hv : LV h v l) (hk : ∀ b, b = sblk v → h'.get b = h.get b) : LV h' v l := by
  rcases hv with e | ⟨b, o, cap, ex, c, ce, rfl, hb, hs⟩
  · exact .inl e
  · exact .inr ⟨b, o, cap, ex, c, ce, rfl, (hk b rfl).trans hb, hs⟩
variable {rm n1 : Nat} {vB vr : V} {L Q : List V} {q : Nat → Int} {rs : Regs} {pc : BitVec 32}
theorem SC.put {c : Blk} (hs : c.size = 17) (hr : c.ro = false) (rs : Regs) (pc : BitVec 32) : SC (c.putA 0 (regs17 rs pc)) rs pc :=
  ⟨by rw [Blk.size_putA]; exact hs, by rw [Blk.ro_putA]; exact hr, fun k hk => by
    rw [get_put17 hs _ rfl k (by omega)]
    rcases (show k = 0 ∨ k = 1 ∨ k = 2 ∨ k = 3 ∨ k = 4 ∨ k = 5 ∨ k = 6 ∨ k = 7 ∨ k = 8 ∨ k = 9 ∨ k = 10 ∨ k = 11 ∨ k = 12 ∨ k = 13 ∨ k = 14 ∨ k = 15 by omega) with rfl | rfl | rfl | rfl | rfl | rfl | rfl | rfl | rfl | rfl | rfl | rfl | rfl | rfl | rfl | rfl <;> rfl, by rw [get_put17 hs _ rfl 16 (by omega)]; rfl⟩
theorem rstep_ok {h : Heap} (hmem : RM h rm n1 vB vr L) (rig : LV h vr Q ∧ L.length = Q.length * 256 ∧ Q.length ≤ 32 ∧ (∀ i, i < Q.length → Q[i]? = some (.int .i64 (q i))) ∧ BytL L) (lt : n1 ≤ h.n) :
    SF (Try.prog : MP) 28 [.agg (regs17 rs pc), .ptr (some (rm, 0))] h (fun _ => True) (fun b => b = sblk vB ∧ n1 ≤ b) (RStepQ h rm n1 vB vr L rs pc (stepO q L rs pc)) := by
  rw [← show stateV rs pc = .agg (regs17 rs pc) from rfl]
  exact rstep28_ok hmem rig lt
set_option maxHeartbeats 40000000 in
theorem run13_ok {h : Heap} (hmem : RM h rm n1 vB vr L) (rig : LV h vr Q ∧ L.length = Q.length * 256 ∧ Q.length ≤ 32 ∧ (∀ i, i < Q.length → Q[i]? = some (.int .i64 (q i))) ∧ BytL L) (lt : n1 ≤ h.n) (hvr : sblk vr < n1) (hsb : sblk vB < h.n) {fuel : Nat} (hf65 : fuel ≤ 65536) :
    SF (Try.prog : MP) 13 [stateV rs pc, .ptr (some (rm, 0)), .int .i64 (fuel : Int)] h (fun _ => True) (fun b => b = sblk vB ∧ n1 ≤ b) fun v h' => v = (runO q fuel 0 rs pc L).v ∧ RM h' rm n1 vB vr (runO q fuel 0 rs pc L).L := by
  rw [show stateV rs pc = .agg (regs17 rs pc) from rfl]
  have f0 : ¬ (fuel : Int) < 0 := by omega
  have f1 : ¬ (65536 : Int) < (fuel : Int) := by omega
  obtain ⟨hrg, hLl, hfew, hint, hbyt⟩ := rig
  refine SF.go hm Try.func13 ir13_eq ?_
  simp -implicitDefEqProofs (disch := (first | omega | (simp -implicitDefEqProofs only [szs, ne_eq] <;> omega) | fail)) only [go_sem, Nat.reduceAdd, Nat.reduceSub, Nat.reduceLT, Nat.reduceMod, Nat.reduceDiv, ↓reduceIte, reduceCtorEq, ir13, f0, f1]
  obtain ⟨g, hg⟩ : ∃ g, g = ((h.push (.cells (Blk.of (regs17 rs pc)) 28)).push (.cells (Blk.of [.int .u32 0, .int .u32 0, .int .u32 0, .int .u32 0, .int .u32 0, .int .u32 0, .int .u32 0, .int .u32 0, .int .u32 0, .int .u32 0, .int .u32 0, .int .u32 0, .int .u32 0, .int .u32 0, .int .u32 0, .int .u32 0, .int .u32 0]) 28)).push (.cells (Blk.of [.int .i64 0, .int .i64 0, .int .u32 0, .int .i64 0, .int .i64 0]) 38) := ⟨_, rfl⟩
  rw [← hg]
  have hn : g.n = h.n + 3 := by rw [hg]; simp
  have old : ∀ b, b < h.n → g.get b = h.get b := fun b hb => by
    rw [hg, w_push_ne (by simp only [Heap.n_push]; omega), w_push_ne (by simp only [Heap.n_push]; omega), w_push_ne (by omega)]
  have x3 : g.get h.n = some (.cells (Blk.of (regs17 rs pc)) 28) := by rw [hg, w_push_ne (by simp only [Heap.n_push]; omega), w_push_ne (by simp only [Heap.n_push]; omega)]; exact w_push_eq rfl _
  have x6 : g.get (h.n + 1) = some (.cells (Blk.of [.int .u32 0, .int .u32 0, .int .u32 0, .int .u32 0, .int .u32 0, .int .u32 0, .int .u32 0, .int .u32 0, .int .u32 0, .int .u32 0, .int .u32 0, .int .u32 0, .int .u32 0, .int .u32 0, .int .u32 0, .int .u32 0, .int .u32 0]) 28) := by rw [hg, w_push_ne (by simp only [Heap.n_push]; omega)]; exact w_push_eq (by simp) _
  have x7 : g.get (h.n + 1 + 1) = some (.cells (Blk.of [.int .i64 0, .int .i64 0, .int .u32 0, .int .i64 0, .int .i64 0]) 38) := by rw [hg]; exact w_push_eq (by simp) _
  clear hg
  obtain ⟨c6, hc6⟩ : ∃ c, c = Blk.of [.int .u32 0, .int .u32 0, .int .u32 0, .int .u32 0, .int .u32 0, .int .u32 0, .int .u32 0, .int .u32 0, .int .u32 0, .int .u32 0, .int .u32 0, .int .u32 0, .int .u32 0, .int .u32 0, .int .u32 0, .int .u32 0, .int .u32 0] := ⟨_, rfl⟩
  obtain ⟨c7, hc7⟩ : ∃ c, c = Blk.of [.int .i64 0, .int .i64 0, .int .u32 0, .int .i64 0, .int .i64 0] := ⟨_, rfl⟩
  have s6 : c6.size = 17 := by rw [hc6]; rfl
  have q6 : c6.ro = false := by rw [hc6]; rfl
  have s7 : c7.size = 5 := by rw [hc7]; rfl
  have q7 : c7.ro = false := by rw [hc7]; rfl
  rw [← hc6] at x6
  rw [← hc7] at x7
  clear hc6 hc7
  have hM0 : RM g rm n1 vB vr L := hmem.keep fun b d e _ _ _ hb => (old b (Heap.lt_of_get hb)).trans hb
  have hR0 := hrg.old old
  refine GLoop.inv hm (fun k f g' => f.mks = [] ∧ f.tm.n = 42 ∧ f.tm.get 1 = some (.ptr (some (rm, 0))) ∧ f.tm.get 2 = some (.int .i64 (fuel : Int)) ∧ f.tm.get 3 = some (.ptr (some (h.n, 0))) ∧ f.tm.get 6 = some (.ptr (some (h.n + 1, 0))) ∧ f.tm.get 7 = some (.ptr (some (h.n + 1 + 1, 0))) ∧ f.tm.get 8 = some (.int .i64 0) ∧ ∃ (i : Nat) (rs1 : Regs) (pc1 : BitVec 32) (L1 : List V), i + k = fuel ∧ f.tm.get 9 = some (.int .i64 (i : Int)) ∧ g'.get (h.n + 1) = some (.cells c6 28) ∧ g'.get (h.n + 1 + 1) = some (.cells c7 38) ∧ (∃ c, g'.get h.n = some (.cells c 28) ∧ SC c rs1 pc1) ∧ RM g' rm n1 vB vr L1 ∧ LV g' vr Q ∧ L1.length = L.length ∧ BytL L1 ∧ g.n ≤ g'.n ∧ runO q k i rs1 pc1 L1 = runO q fuel 0 rs pc L) fuel ?_ ?_
  · exact ⟨rfl, rfl, by simp -implicitDefEqProofs (disch := (first | omega | (simp -implicitDefEqProofs only [szs, ne_eq] <;> omega) | fail)) only [go_sem, Nat.reduceDiv, ↓reduceIte, reduceCtorEq], by simp -implicitDefEqProofs (disch := (first | omega | (simp -implicitDefEqProofs only [szs, ne_eq] <;> omega) | fail)) only [go_sem, Nat.reduceSub, Nat.reduceMod, Nat.reduceDiv, ↓reduceIte, reduceCtorEq], by simp -implicitDefEqProofs (disch := (first | omega | (simp -implicitDefEqProofs only [szs, ne_eq] <;> omega) | fail)) only [go_sem, Nat.reduceMod, Nat.reduceDiv, ↓reduceIte, reduceCtorEq], by simp -implicitDefEqProofs (disch := (first | omega | (simp -implicitDefEqProofs only [szs, ne_eq] <;> omega) | fail)) only [go_sem, Nat.reduceSub, Nat.reduceMod, Nat.reduceDiv, ↓reduceIte, reduceCtorEq], by simp -implicitDefEqProofs (disch := (first | omega | (simp -implicitDefEqProofs only [szs, ne_eq] <;> omega) | fail)) only [go_sem, Nat.reduceMod, Nat.reduceDiv, ↓reduceIte, reduceCtorEq], by simp -implicitDefEqProofs (disch := (first | omega | (simp -implicitDefEqProofs only [szs, ne_eq] <;> omega) | fail)) only [go_sem, Nat.reduceSub, Nat.reduceMod, Nat.reduceDiv, ↓reduceIte, reduceCtorEq], 0, rs, pc, L, by omega, by simp -implicitDefEqProofs (disch := (first | omega | (simp -implicitDefEqProofs only [szs, ne_eq] <;> omega) | fail)) only [go_sem, Nat.reduceSub, Nat.reduceMod, Nat.reduceDiv, ↓reduceIte, reduceCtorEq]; rfl, x6, x7, ⟨_, x3, SC.of rs pc⟩, hM0, hR0, rfl, hbyt, by omega, rfl⟩
  clear x3 x6 x7 hM0 hR0
  rintro k ⟨⟨n', tr⟩, mks⟩ g2 ⟨hmk, hn', t1, t2, t3, t6, t7, t8, i, rs1, pc1, L1, hik, t9, x6, x7, ⟨c, hx, hc⟩, hM, hR, hLL, hB1, hgn, hrun⟩
  simp only [Tm.get_mk] at hmk hn' t1 t2 t3 t6 t7 t8 t9
  subst hmk hn'
  have hs := hc.size; have hr := hc.ro; have hpc := hc.pc
  have a0 := hc.reg 0 (by omega)
  have a1 := hc.reg 1 (by omega)
  have a2 := hc.reg 2 (by omega)
  have a3 := hc.reg 3 (by omega)
  have a4 := hc.reg 4 (by omega)
  have a5 := hc.reg 5 (by omega)
  have a6 := hc.reg 6 (by omega)
  have a7 := hc.reg 7 (by omega)
  have a8 := hc.reg 8 (by omega)
  have a9 := hc.reg 9 (by omega)
  have a10 := hc.reg 10 (by omega)
  have a11 := hc.reg 11 (by omega)
  have a12 := hc.reg 12 (by omega)
  have a13 := hc.reg 13 (by omega)
  have a14 := hc.reg 14 (by omega)
  have a15 := hc.reg 15 (by omega)
  by_cases hin : i < fuel
  · obtain ⟨k', rfl⟩ : ∃ k', k = k' + 1 := ⟨k - 1, by omega⟩
    simp -implicitDefEqProofs (disch := (first | omega | (simp -implicitDefEqProofs only [szs, ne_eq] <;> omega) | fail)) only [go_sem, Nat.reduceAdd, Nat.reduceLT, Nat.reduceEqDiff, ↓reduceIte, ir13_l0, undefV, t1, t2, t3, t9, hx, hs, hpc, a0, a1, a2, a3, a4, a5, a6, a7, a8, a9, a10, a11, a12, a13, a14, a15]
    refine GCall.of (((rstep_ok (q := q) hM ⟨hR, by omega, hfew, hint, hB1⟩ (by omega)).kept).foot (fun _ h => h) (fun b hb => .inr hb)) ?_
    rintro v g3 ⟨hst, vf⟩
    have hn3 := vf.n
    have k3 : ∀ b, b < g2.n → (b < n1 ∨ h.n ≤ b) → g3.get b = g2.get b := fun b hb h2 => vf.get b hb (fun e => by omega)
    have x3' := (k3 h.n (by omega) (by omega)).trans hx
    have x6' := (k3 (h.n + 1) (by omega) (by omega)).trans x6
    have x7' := (k3 (h.n + 1 + 1) (by omega) (by omega)).trans x7
    have w3 : h.n ≤ g3.n := by omega
    have w4 : h.n ≤ g3.n + 1 := by omega
    have d1 : h.n ≠ g3.n := by omega
    have d2 : h.n ≠ g3.n + 1 := by omega
    have d3 : h.n + 1 ≠ g3.n := by omega
    have d4 : h.n + 1 ≠ g3.n + 1 := by omega
    have d5 : h.n + 1 + 1 ≠ g3.n := by omega
    have d6 : h.n + 1 + 1 ≠ g3.n + 1 := by omega
    cases hso : stepO q L1 rs1 pc1 with
    | go rs2 pc2 L2 =>
      rw [hso] at hst
      obtain ⟨rfl, hM2⟩ := hst
      rw [show stateV rs2 pc2 = .agg [U (rs2 0), U (rs2 1), U (rs2 2), U (rs2 3), U (rs2 4), U (rs2 5), U (rs2 6), U (rs2 7), U (rs2 8), U (rs2 9), U (rs2 10), U (rs2 11), U (rs2 12), U (rs2 13), U (rs2 14), U (rs2 15), U pc2] from rfl]
      have z0 : ((Blk.of [.int .u32 0, .int .u32 0, .int .u32 0, .int .u32 0, .int .u32 0, .int .u32 0, .int .u32 0, .int .u32 0, .int .u32 0, .int .u32 0, .int .u32 0, .int .u32 0, .int .u32 0, .int .u32 0, .int .u32 0, .int .u32 0, .int .u32 0]).putA 0 [U (rs2 0), U (rs2 1), U (rs2 2), U (rs2 3), U (rs2 4), U (rs2 5), U (rs2 6), U (rs2 7), U (rs2 8), U (rs2 9), U (rs2 10), U (rs2 11), U (rs2 12), U (rs2 13), U (rs2 14), U (rs2 15), U pc2]).get 0 = U (rs2 0) := rfl
      have z1 : ((Blk.of [.int .u32 0, .int .u32 0, .int .u32 0, .int .u32 0, .int .u32 0, .int .u32 0, .int .u32 0, .int .u32 0, .int .u32 0, .int .u32 0, .int .u32 0, .int .u32 0, .int .u32 0, .int .u32 0, .int .u32 0, .int .u32 0, .int .u32 0]).putA 0 [U (rs2 0), U (rs2 1), U (rs2 2), U (rs2 3), U (rs2 4), U (rs2 5), U (rs2 6), U (rs2 7), U (rs2 8), U (rs2 9), U (rs2 10), U (rs2 11), U (rs2 12), U (rs2 13), U (rs2 14), U (rs2 15), U pc2]).get 1 = U (rs2 1) := rfl
      have z2 : ((Blk.of [.int .u32 0, .int .u32 0, .int .u32 0, .int .u32 0, .int .u32 0, .int .u32 0, .int .u32 0, .int .u32 0, .int .u32 0, .int .u32 0, .int .u32 0, .int .u32 0, .int .u32 0, .int .u32 0, .int .u32 0, .int .u32 0, .int .u32 0]).putA 0 [U (rs2 0), U (rs2 1), U (rs2 2), U (rs2 3), U (rs2 4), U (rs2 5), U (rs2 6), U (rs2 7), U (rs2 8), U (rs2 9), U (rs2 10), U (rs2 11), U (rs2 12), U (rs2 13), U (rs2 14), U (rs2 15), U pc2]).get 2 = U (rs2 2) := rfl
      have z3 : ((Blk.of [.int .u32 0, .int .u32 0, .int .u32 0, .int .u32 0, .int .u32 0, .int .u32 0, .int .u32 0, .int .u32 0, .int .u32 0, .int .u32 0, .int .u32 0, .int .u32 0, .int .u32 0, .int .u32 0, .int .u32 0, .int .u32 0, .int .u32 0]).putA 0 [U (rs2 0), U (rs2 1), U (rs2 2), U (rs2 3), U (rs2 4), U (rs2 5), U (rs2 6), U (rs2 7), U (rs2 8), U (rs2 9), U (rs2 10), U (rs2 11), U (rs2 12), U (rs2 13), U (rs2 14), U (rs2 15), U pc2]).get 3 = U (rs2 3) := rfl
      have z4 : ((Blk.of [.int .u32 0, .int .u32 0, .int .u32 0, .int .u32 0, .int .u32 0, .int .u32 0, .int .u32 0, .int .u32 0, .int .u32 0, .int .u32 0, .int .u32 0, .int .u32 0, .int .u32 0, .int .u32 0, .int .u32 0, .int .u32 0, .int .u32 0]).putA 0 [U (rs2 0), U (rs2 1), U (rs2 2), U (rs2 3), U (rs2 4), U (rs2 5), U (rs2 6), U (rs2 7), U (rs2 8), U (rs2 9), U (rs2 10), U (rs2 11), U (rs2 12), U (rs2 13), U (rs2 14), U (rs2 15), U pc2]).get 4 = U (rs2 4) := rfl
      have z5 : ((Blk.of [.int .u32 0, .int .u32 0, .int .u32 0, .int .u32 0, .int .u32 0, .int .u32 0, .int .u32 0, .int .u32 0, .int .u32 0, .int .u32 0, .int .u32 0, .int .u32 0, .int .u32 0, .int .u32 0, .int .u32 0, .int .u32 0, .int .u32 0]).putA 0 [U (rs2 0), U (rs2 1), U (rs2 2), U (rs2 3), U (rs2 4), U (rs2 5), U (rs2 6), U (rs2 7), U (rs2 8), U (rs2 9), U (rs2 10), U (rs2 11), U (rs2 12), U (rs2 13), U (rs2 14), U (rs2 15), U pc2]).get 5 = U (rs2 5) := rfl
      have z6 : ((Blk.of [.int .u32 0, .int .u32 0, .int .u32 0, .int .u32 0, .int .u32 0, .int .u32 0, .int .u32 0, .int .u32 0, .int .u32 0, .int .u32 0, .int .u32 0, .int .u32 0, .int .u32 0, .int .u32 0, .int .u32 0, .int .u32 0, .int .u32 0]).putA 0 [U (rs2 0), U (rs2 1), U (rs2 2), U (rs2 3), U (rs2 4), U (rs2 5), U (rs2 6), U (rs2 7), U (rs2 8), U (rs2 9), U (rs2 10), U (rs2 11), U (rs2 12), U (rs2 13), U (rs2 14), U (rs2 15), U pc2]).get 6 = U (rs2 6) := rfl
      have z7 : ((Blk.of [.int .u32 0, .int .u32 0, .int .u32 0, .int .u32 0, .int .u32 0, .int .u32 0, .int .u32 0, .int .u32 0, .int .u32 0, .int .u32 0, .int .u32 0, .int .u32 0, .int .u32 0, .int .u32 0, .int .u32 0, .int .u32 0, .int .u32 0]).putA 0 [U (rs2 0), U (rs2 1), U (rs2 2), U (rs2 3), U (rs2 4), U (rs2 5), U (rs2 6), U (rs2 7), U (rs2 8), U (rs2 9), U (rs2 10), U (rs2 11), U (rs2 12), U (rs2 13), U (rs2 14), U (rs2 15), U pc2]).get 7 = U (rs2 7) := rfl
      have z8 : ((Blk.of [.int .u32 0, .int .u32 0, .int .u32 0, .int .u32 0, .int .u32 0, .int .u32 0, .int .u32 0, .int .u32 0, .int .u32 0, .int .u32 0, .int .u32 0, .int .u32 0, .int .u32 0, .int .u32 0, .int .u32 0, .int .u32 0, .int .u32 0]).putA 0 [U (rs2 0), U (rs2 1), U (rs2 2), U (rs2 3), U (rs2 4), U (rs2 5), U (rs2 6), U (rs2 7), U (rs2 8), U (rs2 9), U (rs2 10), U (rs2 11), U (rs2 12), U (rs2 13), U (rs2 14), U (rs2 15), U pc2]).get 8 = U (rs2 8) := rfl
      have z9 : ((Blk.of [.int .u32 0, .int .u32 0, .int .u32 0, .int .u32 0, .int .u32 0, .int .u32 0, .int .u32 0, .int .u32 0, .int .u32 0, .int .u32 0, .int .u32 0, .int .u32 0, .int .u32 0, .int .u32 0, .int .u32 0, .int .u32 0, .int .u32 0]).putA 0 [U (rs2 0), U (rs2 1), U (rs2 2), U (rs2 3), U (rs2 4), U (rs2 5), U (rs2 6), U (rs2 7), U (rs2 8), U (rs2 9), U (rs2 10), U (rs2 11), U (rs2 12), U (rs2 13), U (rs2 14), U (rs2 15), U pc2]).get 9 = U (rs2 9) := rfl
      have z10 : ((Blk.of [.int .u32 0, .int .u32 0, .int .u32 0, .int .u32 0, .int .u32 0, .int .u32 0, .int .u32 0, .int .u32 0, .int .u32 0, .int .u32 0, .int .u32 0, .int .u32 0, .int .u32 0, .int .u32 0, .int .u32 0, .int .u32 0, .int .u32 0]).putA 0 [U (rs2 0), U (rs2 1), U (rs2 2), U (rs2 3), U (rs2 4), U (rs2 5), U (rs2 6), U (rs2 7), U (rs2 8), U (rs2 9), U (rs2 10), U (rs2 11), U (rs2 12), U (rs2 13), U (rs2 14), U (rs2 15), U pc2]).get 10 = U (rs2 10) := rfl
      have z11 : ((Blk.of [.int .u32 0, .int .u32 0, .int .u32 0, .int .u32 0, .int .u32 0, .int .u32 0, .int .u32 0, .int .u32 0, .int .u32 0, .int .u32 0, .int .u32 0, .int .u32 0, .int .u32 0, .int .u32 0, .int .u32 0, .int .u32 0, .int .u32 0]).putA 0 [U (rs2 0), U (rs2 1), U (rs2 2), U (rs2 3), U (rs2 4), U (rs2 5), U (rs2 6), U (rs2 7), U (rs2 8), U (rs2 9), U (rs2 10), U (rs2 11), U (rs2 12), U (rs2 13), U (rs2 14), U (rs2 15), U pc2]).get 11 = U (rs2 11) := rfl
      have z12 : ((Blk.of [.int .u32 0, .int .u32 0, .int .u32 0, .int .u32 0, .int .u32 0, .int .u32 0, .int .u32 0, .int .u32 0, .int .u32 0, .int .u32 0, .int .u32 0, .int .u32 0, .int .u32 0, .int .u32 0, .int .u32 0, .int .u32 0, .int .u32 0]).putA 0 [U (rs2 0), U (rs2 1), U (rs2 2), U (rs2 3), U (rs2 4), U (rs2 5), U (rs2 6), U (rs2 7), U (rs2 8), U (rs2 9), U (rs2 10), U (rs2 11), U (rs2 12), U (rs2 13), U (rs2 14), U (rs2 15), U pc2]).get 12 = U (rs2 12) := rfl
      have z13 : ((Blk.of [.int .u32 0, .int .u32 0, .int .u32 0, .int .u32 0, .int .u32 0, .int .u32 0, .int .u32 0, .int .u32 0, .int .u32 0, .int .u32 0, .int .u32 0, .int .u32 0, .int .u32 0, .int .u32 0, .int .u32 0, .int .u32 0, .int .u32 0]).putA 0 [U (rs2 0), U (rs2 1), U (rs2 2), U (rs2 3), U (rs2 4), U (rs2 5), U (rs2 6), U (rs2 7), U (rs2 8), U (rs2 9), U (rs2 10), U (rs2 11), U (rs2 12), U (rs2 13), U (rs2 14), U (rs2 15), U pc2]).get 13 = U (rs2 13) := rfl
      have z14 : ((Blk.of [.int .u32 0, .int .u32 0, .int .u32 0, .int .u32 0, .int .u32 0, .int .u32 0, .int .u32 0, .int .u32 0, .int .u32 0, .int .u32 0, .int .u32 0, .int .u32 0, .int .u32 0, .int .u32 0, .int .u32 0, .int .u32 0, .int .u32 0]).putA 0 [U (rs2 0), U (rs2 1), U (rs2 2), U (rs2 3), U (rs2 4), U (rs2 5), U (rs2 6), U (rs2 7), U (rs2 8), U (rs2 9), U (rs2 10), U (rs2 11), U (rs2 12), U (rs2 13), U (rs2 14), U (rs2 15), U pc2]).get 14 = U (rs2 14) := rfl
      have z15 : ((Blk.of [.int .u32 0, .int .u32 0, .int .u32 0, .int .u32 0, .int .u32 0, .int .u32 0, .int .u32 0, .int .u32 0, .int .u32 0, .int .u32 0, .int .u32 0, .int .u32 0, .int .u32 0, .int .u32 0, .int .u32 0, .int .u32 0, .int .u32 0]).putA 0 [U (rs2 0), U (rs2 1), U (rs2 2), U (rs2 3), U (rs2 4), U (rs2 5), U (rs2 6), U (rs2 7), U (rs2 8), U (rs2 9), U (rs2 10), U (rs2 11), U (rs2 12), U (rs2 13), U (rs2 14), U (rs2 15), U pc2]).get 15 = U (rs2 15) := rfl
      have z16 : ((Blk.of [.int .u32 0, .int .u32 0, .int .u32 0, .int .u32 0, .int .u32 0, .int .u32 0, .int .u32 0, .int .u32 0, .int .u32 0, .int .u32 0, .int .u32 0, .int .u32 0, .int .u32 0, .int .u32 0, .int .u32 0, .int .u32 0, .int .u32 0]).putA 0 [U (rs2 0), U (rs2 1), U (rs2 2), U (rs2 3), U (rs2 4), U (rs2 5), U (rs2 6), U (rs2 7), U (rs2 8), U (rs2 9), U (rs2 10), U (rs2 11), U (rs2 12), U (rs2 13), U (rs2 14), U (rs2 15), U pc2]).get 16 = U pc2 := rfl
      simp -implicitDefEqProofs (disch := (first | omega | (simp -implicitDefEqProofs only [szs, ne_eq] <;> omega) | fail)) only [go_sem, Nat.reduceAdd, Nat.reduceLT, Nat.reduceEqDiff, ↓reduceIte, undefV, t1, t2, t3, t6, t7, t8, t9, x3', hs, hr, w3, w4, z0, z1, z2, z3, z4, z5, z6, z7, z8, z9, z10, z11, z12, z13, z14, z15, z16]
      have hkp := stepO_keep hso hB1
      refine ⟨k', by omega, i + 1, rs2, pc2, L2, by omega, by rfl, x6', x7', ⟨_, rfl, SC.put hs hr rs2 pc2⟩, hM2.keep (fun b d e n1 n2 n3 hb => ?_), hR.keepb (fun b hb => ?_), hkp.1.trans hLL, hkp.2, by first | omega | (simp only [Heap.n_set, Heap.n_push]; omega), by rw [← hrun, runO, hso]⟩
      · have hb3 := Heap.lt_of_get hb
        have hbn : b ≠ h.n := fun e' => by rw [e', x3'] at hb; simp at hb; exact n1 hb.2.symm
        rw [w_set_ne (by simp only [Heap.n_set, Heap.n_push]; omega) hbn, w_set_ne (by simp only [Heap.n_set, Heap.n_push]; omega) (by omega), w_set_ne (by simp only [Heap.n_push]; omega) (by omega), w_push_ne (by simp only [Heap.n_push]; omega), w_push_ne (by omega)]
        exact hb
      · have hb1 : b < n1 := by omega
        rw [w_set_ne (by simp only [Heap.n_set, Heap.n_push]; omega) (by omega), w_set_ne (by simp only [Heap.n_set, Heap.n_push]; omega) (by omega), w_set_ne (by simp only [Heap.n_push]; omega) (by omega), w_push_ne (by simp only [Heap.n_push]; omega), w_push_ne (by omega)]
        exact k3 b (by omega) (.inl hb1)
    | stop kd cl at' nd =>
      rw [hso] at hst
      obtain ⟨rfl, hM2⟩ := hst
      rw [show stateV rs1 pc1 = .agg [U (rs1 0), U (rs1 1), U (rs1 2), U (rs1 3), U (rs1 4), U (rs1 5), U (rs1 6), U (rs1 7), U (rs1 8), U (rs1 9), U (rs1 10), U (rs1 11), U (rs1 12), U (rs1 13), U (rs1 14), U (rs1 15), U pc1] from rfl]
      have hkd : ¬ kd = 0 := stepO_kind hso
      simp -implicitDefEqProofs (disch := (first | omega | (simp -implicitDefEqProofs only [szs, ne_eq] <;> omega) | fail)) only [go_sem, Nat.reduceAdd, Nat.reduceLT, Nat.reduceEqDiff, ↓reduceIte, undefV, t3, t6, t7, t9, x3', hs, hpc, w3, w4, x6', s6, q6, x7', s7, q7, a0, a1, a2, a3, a4, a5, a6, a7, a8, a9, a10, a11, a12, a13, a14, a15]
      refine ⟨?_, fun _ => .inl (by omega), ?_⟩
      · simp only [List.not_mem_nil, or_false, false_or, and_false, List.mem_cons]
        try and_intros
        all_goals (intros; omega)
      have hp : ∀ j, j < 17 → (c6.putA 0 [U (rs1 0), U (rs1 1), U (rs1 2), U (rs1 3), U (rs1 4), U (rs1 5), U (rs1 6), U (rs1 7), U (rs1 8), U (rs1 9), U (rs1 10), U (rs1 11), U (rs1 12), U (rs1 13), U (rs1 14), U (rs1 15), U pc1]).get j = [U (rs1 0), U (rs1 1), U (rs1 2), U (rs1 3), U (rs1 4), U (rs1 5), U (rs1 6), U (rs1 7), U (rs1 8), U (rs1 9), U (rs1 10), U (rs1 11), U (rs1 12), U (rs1 13), U (rs1 14), U (rs1 15), U pc1].getD j undefV := fun j hj => get_put17 s6 _ rfl j hj
      rw [hp 0 (by omega), hp 1 (by omega), hp 2 (by omega), hp 3 (by omega), hp 4 (by omega), hp 5 (by omega), hp 6 (by omega), hp 7 (by omega), hp 8 (by omega), hp 9 (by omega), hp 10 (by omega), hp 11 (by omega), hp 12 (by omega), hp 13 (by omega), hp 14 (by omega), hp 15 (by omega), hp 16 (by omega), ← hrun, runO, hso]
      refine ⟨rfl, hM2.keep fun b d e n1 n2 n3 hb => ?_⟩
      have hb3 := Heap.lt_of_get hb
      have hb6 : b ≠ h.n + 1 := fun e' => by rw [e', x6'] at hb; simp at hb; exact n1 hb.2.symm
      have hb7 : b ≠ h.n + 1 + 1 := fun e' => by rw [e', x7'] at hb; simp at hb; exact n2 hb.2.symm
      simp (disch := ((try simp only [Heap.n_set, Heap.n_push]); omega)) only [w_set_ne, w_push_ne]
      exact hb
  · obtain rfl : k = 0 := by omega
    obtain rfl : i = fuel := by omega
    simp -implicitDefEqProofs (disch := (first | omega | (simp -implicitDefEqProofs only [szs, ne_eq] <;> omega) | fail)) only [go_sem, Nat.reduceAdd, Nat.reduceLT, Nat.reduceEqDiff, Nat.reduceLeDiff, ↓reduceIte, ir13_l0, undefV, t2, t3, t6, t7, t9, hx, hs, hpc, x6, s6, q6, x7, s7, q7, a0, a1, a2, a3, a4, a5, a6, a7, a8, a9, a10, a11, a12, a13, a14, a15]
    refine ⟨.inl (by omega), ?_⟩
    have hp : ∀ j, j < 17 → (c6.putA 0 [U (rs1 0), U (rs1 1), U (rs1 2), U (rs1 3), U (rs1 4), U (rs1 5), U (rs1 6), U (rs1 7), U (rs1 8), U (rs1 9), U (rs1 10), U (rs1 11), U (rs1 12), U (rs1 13), U (rs1 14), U (rs1 15), U pc1]).get j = [U (rs1 0), U (rs1 1), U (rs1 2), U (rs1 3), U (rs1 4), U (rs1 5), U (rs1 6), U (rs1 7), U (rs1 8), U (rs1 9), U (rs1 10), U (rs1 11), U (rs1 12), U (rs1 13), U (rs1 14), U (rs1 15), U pc1].getD j undefV := fun j hj => get_put17 s6 _ rfl j hj
    rw [hp 0 (by omega), hp 1 (by omega), hp 2 (by omega), hp 3 (by omega), hp 4 (by omega), hp 5 (by omega), hp 6 (by omega), hp 7 (by omega), hp 8 (by omega), hp 9 (by omega), hp 10 (by omega), hp 11 (by omega), hp 12 (by omega), hp 13 (by omega), hp 14 (by omega), hp 15 (by omega), hp 16 (by omega), ← hrun, runO]
    have l6 := Heap.lt_of_get x6
    have y2 : ∀ o', (g2.set (h.n + 1) o').get (h.n + 1 + 1) = some (.cells c7 38) := fun o' => by rw [w_set_ne l6 (by omega)]; exact x7
    exact ⟨rfl, hM.keep fun b d e n1 n2 n3 hb => set_e (y2 _) b d e n2 (set_e x6 b d e n1 hb)⟩
end Go.Proofs.Ytmkdbninmimndaa
