/- The program's Run. -/
import Derived.Test.YtmkdbninmimndaaEE
set_option linter.unusedVariables false
set_option maxRecDepth 100000
namespace Go.Proofs.Ytmkdbninmimndaa
open Go Go.Vm
structure Res where
  rs : Regs
  pc : BitVec 32
  L : List V
  kind : Int
  call : Int
  at' : Nat
  need : Int
  used : Nat
def runO (q : Nat → Int) : Nat → Nat → Regs → BitVec 32 → List V → Res
  | 0, used, rs, pc, L => ⟨rs, pc, L, 1, 0, 0, 0, used⟩
  | k + 1, used, rs, pc, L => match stepO q L rs pc with
    | .go rs' pc' L' => runO q k (used + 1) rs' pc' L'
    | .stop kd c a n => ⟨rs, pc, L, kd, c, a, n, used⟩
abbrev Res.v (r : Res) : V := .tuple [stateV r.rs r.pc, stopV r.kind r.call r.at' r.need r.used, .int .i64 0]
variable {fp n0 : Nat} {L Q : List V} {q : Nat → Int} {rs : Regs} {pc : BitVec 32}
theorem FlatAt.keepE {h h' : Heap} {fp n0 : Nat} {L Q : List V} {q : Nat → Int} (hf : FlatAt h fp n0 L Q q) (hk : ∀ b c e, e ≠ 72 → e ≠ 28 → e ≠ 38 → h.get b = some (.cells c e) → h'.get b = some (.cells c e)) : FlatAt h' fp n0 L Q q := by
  obtain ⟨c, vb, vr, c1, cs, cr, c0, c1', ob, or'⟩ := hf.c
  exact ⟨⟨c, vb, vr, hk fp c 80 (by decide) (by decide) (by decide) c1, cs, cr, c0, c1', ob.keep fun b c hb => hk b c 5 (by decide) (by decide) (by decide) hb, or'.keep fun b c hb => hk b c 3 (by decide) (by decide) (by decide) hb⟩, hf.len, hf.few, hf.int, hf.byt⟩
theorem MC.of (fp : Nat) (rs : Regs) (pc : BitVec 32) : MC (Blk.of [U (rs 0), U (rs 1), U (rs 2), U (rs 3), U (rs 4), U (rs 5), U (rs 6), U (rs 7), U (rs 8), U (rs 9), U (rs 10), U (rs 11), U (rs 12), U (rs 13), U (rs 14), U (rs 15), U pc, .iface 32 (.ptr (some (fp, 0))), .int .i64 0, .int .i64 0, .int .u32 0, .int .i64 0, .int .i64 0]) fp rs pc :=
  ⟨rfl, rfl, fun k hk => by
    rcases (show k = 0 ∨ k = 1 ∨ k = 2 ∨ k = 3 ∨ k = 4 ∨ k = 5 ∨ k = 6 ∨ k = 7 ∨ k = 8 ∨ k = 9 ∨ k = 10 ∨ k = 11 ∨ k = 12 ∨ k = 13 ∨ k = 14 ∨ k = 15 by omega) with rfl | rfl | rfl | rfl | rfl | rfl | rfl | rfl | rfl | rfl | rfl | rfl | rfl | rfl | rfl | rfl <;> rfl, rfl, rfl⟩
set_option maxHeartbeats 40000000 in
theorem run12_ok {h : Heap} (hf : FlatAt h fp n0 L Q q) (hn0 : n0 ≤ h.n) {fuel : Nat} (hf65 : fuel ≤ 65536) :
    SF (Try.prog : MP) 12 [stateV rs pc, .iface 32 (.ptr (some (fp, 0))), .int .i64 (fuel : Int)] h (fun _ => True) (fun b => b = fblk h fp ∧ n0 ≤ b) fun v h' => v = (runO q fuel 0 rs pc L).v ∧ FlatAt h' fp n0 (runO q fuel 0 rs pc L).L Q q ∧ h'.get fp = h.get fp := by
  rw [show stateV rs pc = .agg (regs17 rs pc) from rfl]
  have f0 : ¬ (fuel : Int) < 0 := by omega
  have f1 : ¬ (65536 : Int) < (fuel : Int) := by omega
  have hfl : fp < h.n := by obtain ⟨_, _, _, c1, _⟩ := hf.c; exact Heap.lt_of_get c1
  have hbl := hf.fblk_lt
  refine SF.go hm Try.func12 ir12_eq ?_
  simp -implicitDefEqProofs (disch := (first | omega | (simp -implicitDefEqProofs only [szs, ne_eq] <;> omega) | fail)) only [go_sem, Nat.reduceAdd, Nat.reduceSub, Nat.reduceLT, Nat.reduceMod, Nat.reduceDiv, Nat.reduceLeDiff, ↓reduceIte, reduceCtorEq, ir12, undefV, f0, f1]
  obtain ⟨g, hg⟩ : ∃ g, g = (((h.push (.cells (Blk.of (regs17 rs pc)) 28)).push (.cells (Blk.of [.int .u32 0, .int .u32 0, .int .u32 0, .int .u32 0, .int .u32 0, .int .u32 0, .int .u32 0, .int .u32 0, .int .u32 0, .int .u32 0, .int .u32 0, .int .u32 0, .int .u32 0, .int .u32 0, .int .u32 0, .int .u32 0, .int .u32 0]) 28)).push (.cells (Blk.of [.int .i64 0, .int .i64 0, .int .u32 0, .int .i64 0, .int .i64 0]) 38)).push (.cells (Blk.of [U (rs 0), U (rs 1), U (rs 2), U (rs 3), U (rs 4), U (rs 5), U (rs 6), U (rs 7), U (rs 8), U (rs 9), U (rs 10), U (rs 11), U (rs 12), U (rs 13), U (rs 14), U (rs 15), U pc, .iface 32 (.ptr (some (fp, 0))), .int .i64 0, .int .i64 0, .int .u32 0, .int .i64 0, .int .i64 0]) 72) := ⟨_, rfl⟩
  rw [← hg]
  have hn : g.n = h.n + 4 := by rw [hg]; simp
  have old : ∀ b, b < h.n → g.get b = h.get b := fun b hb => by
    rw [hg, w_push_ne (by simp only [Heap.n_push]; omega), w_push_ne (by simp only [Heap.n_push]; omega), w_push_ne (by simp only [Heap.n_push]; omega), w_push_ne (by omega)]
  have x6 : g.get (h.n + 1) = some (.cells (Blk.of [.int .u32 0, .int .u32 0, .int .u32 0, .int .u32 0, .int .u32 0, .int .u32 0, .int .u32 0, .int .u32 0, .int .u32 0, .int .u32 0, .int .u32 0, .int .u32 0, .int .u32 0, .int .u32 0, .int .u32 0, .int .u32 0, .int .u32 0]) 28) := by rw [hg, w_push_ne (by simp only [Heap.n_push]; omega), w_push_ne (by simp only [Heap.n_push]; omega)]; exact w_push_eq (by simp) _
  have x7 : g.get (h.n + 1 + 1) = some (.cells (Blk.of [.int .i64 0, .int .i64 0, .int .u32 0, .int .i64 0, .int .i64 0]) 38) := by rw [hg, w_push_ne (by simp only [Heap.n_push]; omega)]; exact w_push_eq (by simp) _
  have x9 : g.get (h.n + 1 + 1 + 1) = some (.cells (Blk.of [U (rs 0), U (rs 1), U (rs 2), U (rs 3), U (rs 4), U (rs 5), U (rs 6), U (rs 7), U (rs 8), U (rs 9), U (rs 10), U (rs 11), U (rs 12), U (rs 13), U (rs 14), U (rs 15), U pc, .iface 32 (.ptr (some (fp, 0))), .int .i64 0, .int .i64 0, .int .u32 0, .int .i64 0, .int .i64 0]) 72) := by rw [hg]; exact w_push_eq (by simp) _
  clear hg
  obtain ⟨c6, hc6⟩ : ∃ c, c = Blk.of [.int .u32 0, .int .u32 0, .int .u32 0, .int .u32 0, .int .u32 0, .int .u32 0, .int .u32 0, .int .u32 0, .int .u32 0, .int .u32 0, .int .u32 0, .int .u32 0, .int .u32 0, .int .u32 0, .int .u32 0, .int .u32 0, .int .u32 0] := ⟨_, rfl⟩
  obtain ⟨c7, hc7⟩ : ∃ c, c = Blk.of [.int .i64 0, .int .i64 0, .int .u32 0, .int .i64 0, .int .i64 0] := ⟨_, rfl⟩
  have s6 : c6.size = 17 := by rw [hc6]; rfl
  have q6 : c6.ro = false := by rw [hc6]; rfl
  have s7 : c7.size = 5 := by rw [hc7]; rfl
  have q7 : c7.ro = false := by rw [hc7]; rfl
  rw [← hc6] at x6
  rw [← hc7] at x7
  clear hc6 hc7
  refine GCall.of (((math_ok g).kept).foot (fun _ h => h.elim) (fun _ h => h.elim)) ?_
  rintro ops g1 ⟨hops, vf⟩
  have old1 : ∀ b, b < g.n → g1.get b = g.get b := fun b hb => vf.get b hb (by simp)
  have hn1 := vf.n
  have hM1 : Mach g1 (h.n + 1 + 1 + 1) fp rs pc := ⟨_, (old1 _ (by omega)).trans x9, MC.of fp rs pc⟩
  have hF1 : FlatAt g1 fp n0 L Q q := hf.old fun b hb => (old1 b (by omega)).trans (old b hb)
  have x6' := (old1 _ (by omega)).trans x6
  have x7' := (old1 _ (by omega)).trans x7
  have xfp : g1.get fp = h.get fp := (old1 fp (by omega)).trans (old fp hfl)
  clear old1 vf x6 x7 x9 old
  simp -implicitDefEqProofs (disch := (first | omega | (simp -implicitDefEqProofs only [szs, ne_eq] <;> omega) | fail)) only [go_sem, Nat.reduceAdd, Nat.reduceSub, Nat.reduceLT, Nat.reduceMod, Nat.reduceDiv, ↓reduceIte, reduceCtorEq]
  refine GLoop.inv hm (fun k f g' => f.mks = [] ∧ f.tm.n = 59 ∧ f.tm.get 2 = some (.int .i64 (fuel : Int)) ∧ f.tm.get 6 = some (.ptr (some (h.n + 1, 0))) ∧ f.tm.get 7 = some (.ptr (some (h.n + 1 + 1, 0))) ∧ f.tm.get 9 = some (.ptr (some (h.n + 1 + 1 + 1, 0))) ∧ f.tm.get 10 = some ops ∧ f.tm.get 31 = some (.int .i64 (fuel : Int)) ∧ ∃ (i : Nat) (rs1 : Regs) (pc1 : BitVec 32) (L1 : List V), i + k = fuel ∧ f.tm.get 32 = some (.int .i64 (i : Int)) ∧ g'.get (h.n + 1) = some (.cells c6 28) ∧ g'.get (h.n + 1 + 1) = some (.cells c7 38) ∧ Mach g' (h.n + 1 + 1 + 1) fp rs1 pc1 ∧ FlatAt g' fp n0 L1 Q q ∧ OpsAt g' g.n ops ∧ g'.get fp = h.get fp ∧ g.n ≤ g'.n ∧ runO q k i rs1 pc1 L1 = runO q fuel 0 rs pc L) fuel ?_ ?_
  · exact ⟨rfl, rfl, by simp -implicitDefEqProofs (disch := (first | omega | (simp -implicitDefEqProofs only [szs, ne_eq] <;> omega) | fail)) only [go_sem, Nat.reduceSub, Nat.reduceMod, Nat.reduceDiv, ↓reduceIte, reduceCtorEq], by simp -implicitDefEqProofs (disch := (first | omega | (simp -implicitDefEqProofs only [szs, ne_eq] <;> omega) | fail)) only [go_sem, Nat.reduceSub, Nat.reduceMod, Nat.reduceDiv, ↓reduceIte, reduceCtorEq], by simp -implicitDefEqProofs (disch := (first | omega | (simp -implicitDefEqProofs only [szs, ne_eq] <;> omega) | fail)) only [go_sem, Nat.reduceMod, Nat.reduceDiv, ↓reduceIte, reduceCtorEq], by simp -implicitDefEqProofs (disch := (first | omega | (simp -implicitDefEqProofs only [szs, ne_eq] <;> omega) | fail)) only [go_sem, Nat.reduceSub, Nat.reduceMod, Nat.reduceDiv, ↓reduceIte, reduceCtorEq], by simp -implicitDefEqProofs (disch := (first | omega | (simp -implicitDefEqProofs only [szs, ne_eq] <;> omega) | fail)) only [go_sem, Nat.reduceSub, Nat.reduceMod, Nat.reduceDiv, ↓reduceIte, reduceCtorEq], by simp -implicitDefEqProofs (disch := (first | omega | (simp -implicitDefEqProofs only [szs, ne_eq] <;> omega) | fail)) only [go_sem, Nat.reduceMod, Nat.reduceDiv, ↓reduceIte, reduceCtorEq], 0, rs, pc, L, by omega, by simp -implicitDefEqProofs (disch := (first | omega | (simp -implicitDefEqProofs only [szs, ne_eq] <;> omega) | fail)) only [go_sem, Nat.reduceSub, Nat.reduceMod, Nat.reduceDiv, ↓reduceIte, reduceCtorEq]; rfl, x6', x7', hM1, hF1, hops, xfp, hn1, rfl⟩
  clear x6' x7' hM1 hF1 hops xfp hn1
  rintro k ⟨⟨n', tr⟩, mks⟩ g2 ⟨hmk, hn', t2, t6, t7, t9, t10, t31, i, rs1, pc1, L1, hik, t32, x6, x7, ⟨c, hx, hc⟩, hF, hO, hfp, hgn, hrun⟩
  simp only [Tm.get_mk] at hmk hn' t2 t6 t7 t9 t10 t31 t32
  subst hmk hn'
  have hops1 : ops.one = true := by obtain ⟨m, _, _, rfl, _⟩ := hO; rfl
  have hfb : fblk g2 fp = fblk h fp := fblk_eq hfp
  by_cases hin : i < fuel
  · obtain ⟨k', rfl⟩ : ∃ k', k = k' + 1 := ⟨k - 1, by omega⟩
    simp -implicitDefEqProofs (disch := (first | omega | (simp -implicitDefEqProofs only [szs, ne_eq] <;> omega) | fail)) only [go_sem, Nat.reduceAdd, Nat.reduceLT, Nat.reduceEqDiff, ↓reduceIte, ir12_l0, undefV, t9, t10, t31, t32]
    refine GCall.of (((step27_ok (nops := g.n) hx hc hF hO (by omega) ⟨by omega, by rw [hfb]; omega, hgn⟩ (by omega)).kept).foot (fun _ h => h) (fun b hb => ?_)) ?_
    · rcases hb with rfl | ⟨hb, hb2⟩
      · exact .inl (by omega)
      · exact .inr ⟨by rw [hb, hfb], hb2⟩
    rintro v g3 ⟨⟨efp, hst⟩, vf⟩
    have hn3 := vf.n
    have k3 : ∀ b, h.n ≤ b → b < g2.n → b ≠ h.n + 1 + 1 + 1 → g3.get b = g2.get b := fun b hb hb2 hb3 => vf.get b hb2 (fun e => e.elim (fun e => hb3 e) fun e => by have := e.1; rw [hfb] at this; omega)
    have x6' := (k3 (h.n + 1) (by omega) (by omega) (by omega)).trans x6
    have x7' := (k3 (h.n + 1 + 1) (by omega) (by omega) (by omega)).trans x7
    have hO3 : OpsAt g3 g.n ops := hO.keep fun b hb hb2 hb3 => k3 b (by omega) hb2 (by omega)
    cases hso : stepO q L1 rs1 pc1 with
    | go rs2 pc2 L2 =>
      rw [hso] at hst
      obtain ⟨rfl, hM2, hF2⟩ := hst
      simp -implicitDefEqProofs (disch := (first | omega | (simp -implicitDefEqProofs only [szs, ne_eq] <;> omega) | fail)) only [go_sem, Nat.reduceAdd, Nat.reduceLT, Nat.reduceEqDiff, ↓reduceIte, t2, t6, t7, t9, t10, t31, t32]
      exact ⟨k', by omega, i + 1, rs2, pc2, L2, by omega, by rfl, x6', x7', hM2, hF2, hO3, efp.symm.trans hfp, by omega, by rw [← hrun, runO, hso]⟩
    | stop kd cl at' nd =>
      rw [hso] at hst
      obtain ⟨rfl, ⟨c, hx, hc⟩, ⟨c', hx', y18, y19, y20, y21, y22⟩, hF2⟩ := hst
      rw [hx] at hx'
      obtain rfl : c = c' := by simpa using hx'
      have hs := hc.size; have hr := hc.ro; have hpc := hc.pc
      have a0 := hc.reg 0 (by omega)
      have a1 := hc.reg 1 (by omega)
      have a2 := hc.reg 2 (by omega)
      have a3 := hc.reg 3 (by omega)
      have a4 := hc.reg 4 (by omega)
      have a5 := hc.reg 5 (by omega)
      have a6 := hc.reg 6 (by omega)
      have a7 := hc.reg 7 (by omega)
      have a8 := hc.reg 8 (by omega)
      have a9 := hc.reg 9 (by omega)
      have a10 := hc.reg 10 (by omega)
      have a11 := hc.reg 11 (by omega)
      have a12 := hc.reg 12 (by omega)
      have a13 := hc.reg 13 (by omega)
      have a14 := hc.reg 14 (by omega)
      have a15 := hc.reg 15 (by omega)
      simp -implicitDefEqProofs (disch := (first | omega | (simp -implicitDefEqProofs only [szs, ne_eq] <;> omega) | fail)) only [go_sem, Nat.reduceAdd, Nat.reduceLT, Nat.reduceEqDiff, ↓reduceIte, undefV, t6, t7, t9, hx, hs, hr, hpc, y18, y19, y20, y21, x6', s6, q6, x7', s7, q7, a0, a1, a2, a3, a4, a5, a6, a7, a8, a9, a10, a11, a12, a13, a14, a15]
      refine ⟨.inl (by omega), ?_, fun _ => .inl (by omega), ?_⟩
      · simp only [List.not_mem_nil, or_false, false_or, and_false, implies_true, not_false_eq_true, List.mem_cons, and_true]
        try and_intros
        all_goals (intros; omega)
      have hp : ∀ j, j < 17 → (c6.putA 0 [U (rs1 0), U (rs1 1), U (rs1 2), U (rs1 3), U (rs1 4), U (rs1 5), U (rs1 6), U (rs1 7), U (rs1 8), U (rs1 9), U (rs1 10), U (rs1 11), U (rs1 12), U (rs1 13), U (rs1 14), U (rs1 15), U pc1]).get j = [U (rs1 0), U (rs1 1), U (rs1 2), U (rs1 3), U (rs1 4), U (rs1 5), U (rs1 6), U (rs1 7), U (rs1 8), U (rs1 9), U (rs1 10), U (rs1 11), U (rs1 12), U (rs1 13), U (rs1 14), U (rs1 15), U pc1].getD j undefV := fun j hj => get_put17 s6 _ rfl j hj
      rw [hp 0 (by omega), hp 1 (by omega), hp 2 (by omega), hp 3 (by omega), hp 4 (by omega), hp 5 (by omega), hp 6 (by omega), hp 7 (by omega), hp 8 (by omega), hp 9 (by omega), hp 10 (by omega), hp 11 (by omega), hp 12 (by omega), hp 13 (by omega), hp 14 (by omega), hp 15 (by omega), hp 16 (by omega), ← hrun, runO, hso]
      have lx := Heap.lt_of_get hx; have l6 := Heap.lt_of_get x6'; have l7 := Heap.lt_of_get x7'
      have y1 : ∀ o, (g3.set (h.n + 1 + 1 + 1) o).get (h.n + 1) = some (.cells c6 28) := fun o => by rw [w_set_ne lx (by omega)]; exact x6'
      have y2 : ∀ o o', ((g3.set (h.n + 1 + 1 + 1) o).set (h.n + 1) o').get (h.n + 1 + 1) = some (.cells c7 38) := fun o o' => by rw [w_set_ne (by simpa using l6) (by omega), w_set_ne lx (by omega)]; exact x7'
      refine ⟨rfl, hF2.keepE fun b d e n1 n2 n3 hb => set_e (y2 _ _) b d e n3 (set_e (y1 _) b d e n2 (set_e hx b d e n1 hb)), ?_⟩
      exact efp.symm.trans hfp
  · obtain rfl : k = 0 := by omega
    obtain rfl : i = fuel := by omega
    have hs := hc.size; have hr := hc.ro; have hpc := hc.pc
    have a0 := hc.reg 0 (by omega)
    have a1 := hc.reg 1 (by omega)
    have a2 := hc.reg 2 (by omega)
    have a3 := hc.reg 3 (by omega)
    have a4 := hc.reg 4 (by omega)
    have a5 := hc.reg 5 (by omega)
    have a6 := hc.reg 6 (by omega)
    have a7 := hc.reg 7 (by omega)
    have a8 := hc.reg 8 (by omega)
    have a9 := hc.reg 9 (by omega)
    have a10 := hc.reg 10 (by omega)
    have a11 := hc.reg 11 (by omega)
    have a12 := hc.reg 12 (by omega)
    have a13 := hc.reg 13 (by omega)
    have a14 := hc.reg 14 (by omega)
    have a15 := hc.reg 15 (by omega)
    simp -implicitDefEqProofs (disch := (first | omega | (simp -implicitDefEqProofs only [szs, ne_eq] <;> omega) | fail)) only [go_sem, Nat.reduceAdd, Nat.reduceLT, Nat.reduceEqDiff, Nat.reduceLeDiff, ↓reduceIte, ir12_l0, undefV, t2, t6, t7, t9, t31, t32, hx, hs, hpc, x6, s6, q6, x7, s7, q7, a0, a1, a2, a3, a4, a5, a6, a7, a8, a9, a10, a11, a12, a13, a14, a15]
    refine ⟨.inl (by omega), ?_⟩
    have hp : ∀ j, j < 17 → (c6.putA 0 [U (rs1 0), U (rs1 1), U (rs1 2), U (rs1 3), U (rs1 4), U (rs1 5), U (rs1 6), U (rs1 7), U (rs1 8), U (rs1 9), U (rs1 10), U (rs1 11), U (rs1 12), U (rs1 13), U (rs1 14), U (rs1 15), U pc1]).get j = [U (rs1 0), U (rs1 1), U (rs1 2), U (rs1 3), U (rs1 4), U (rs1 5), U (rs1 6), U (rs1 7), U (rs1 8), U (rs1 9), U (rs1 10), U (rs1 11), U (rs1 12), U (rs1 13), U (rs1 14), U (rs1 15), U pc1].getD j undefV := fun j hj => get_put17 s6 _ rfl j hj
    rw [hp 0 (by omega), hp 1 (by omega), hp 2 (by omega), hp 3 (by omega), hp 4 (by omega), hp 5 (by omega), hp 6 (by omega), hp 7 (by omega), hp 8 (by omega), hp 9 (by omega), hp 10 (by omega), hp 11 (by omega), hp 12 (by omega), hp 13 (by omega), hp 14 (by omega), hp 15 (by omega), hp 16 (by omega), ← hrun, runO]
    have l6 := Heap.lt_of_get x6; have l7 := Heap.lt_of_get x7
    have y2 : ∀ o', (g2.set (h.n + 1) o').get (h.n + 1 + 1) = some (.cells c7 38) := fun o' => by rw [w_set_ne l6 (by omega)]; exact x7
    refine ⟨rfl, hF.keepE fun b d e n1 n2 n3 hb => set_e (y2 _) b d e n3 (set_e x6 b d e n2 hb), ?_⟩
    exact hfp
end Go.Proofs.Ytmkdbninmimndaa
