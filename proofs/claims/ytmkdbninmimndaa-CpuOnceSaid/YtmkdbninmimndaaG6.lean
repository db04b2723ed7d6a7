/- CpuOnce: the walk, its beginning. -/
import Derived.Test.YtmkdbninmimndaaG5
import Derived.Test.YtmkdbninmimndaaGV
set_option linter.unusedVariables false
set_option maxRecDepth 100000
namespace Go.Proofs.Ytmkdbninmimndaa
open Go Go.Vm
variable {rs : Regs} {pc : BitVec 32}
theorem badF_ok {q : Nat → Int} {b0 : Bool} : ∀ {k : Nat}, (∀ i, i < k → 0 ≤ q i ∧ q i ≤ 7) → badF q b0 k = b0
  | 0, _ => rfl
  | k + 1, h => by
    have h1 := h k (by omega)
    rw [badF, badF_ok fun i hi => h i (by omega), decide_eq_false (by omega), decide_eq_false (by omega)]
    simp
theorem BufAt.abv {nb n2 : Nat} {g g' : Heap} {v : V} {l : List V} (hb : BufAt nb n2 g v l) (hk : ∀ b, b = nb ∨ n2 ≤ b → b < g.n → g'.get b = g.get b) : BufAt nb n2 g' v l := by
  rcases hb with ⟨hl, c, rfl, hb, hs⟩ | ho
  · exact .inl ⟨hl, c, rfl, by rw [hk _ (.inl rfl) (Heap.lt_of_get hb)]; exact hb, hs⟩
  · exact .inr (ho.abv fun b h1 h2 => hk b (.inr h1) h2)
set_option maxHeartbeats 8000000 in
theorem once_b {H g : Heap} {nb n2 kS k : Nat} {l lC Q : List V} {q : Nat → Int} {vb vc vR : V} {cS : Blk} (hSC : SC cS rs pc) (hS : g.get kS = some (.cells cS 28)) (hH : H.n ≤ kS) (hkS : kS < nb) (hnb : nb < n2) (hn2 : n2 ≤ g.n) (hb : BufAt nb n2 g vb l) (bl : BytL l) (hl : l.length = k) (hk : k ≤ 1023) (hc : LV g vc lC) (bc : BytL lC) (hlc : lC.length ≤ 4)
    (hR : ∀ g', (∀ b, b < n2 → b ≠ nb → b ≠ kS → g'.get b = g.get b) → LV g' vR Q) (hQ : Q.length = 32) (hint : ∀ i, i < Q.length → Q[i]? = some (.int .i64 (q i))) (hq : ∀ i, i < 32 → 0 ≤ q i ∧ q i ≤ 7)
    {tr : Tr V} (t5 : tr.get 5 = some (.ptr (some (kS, 0)))) (t9 : tr.get 9 = some vR) (t11 : tr.get 11 = some vb) (t12 : tr.get 12 = some vc) (t13 : tr.get 13 = some (.int .i64 (k : Int))) : Goal4 H g tr ir4_r10 := by
  unfold Goal4
  obtain ⟨hx, rs1, hf⟩ := first_lv hc
  obtain ⟨v3, g3, r3, w3, hap, hb3, hn3, k3, hw3⟩ := app_buf hb hnb hn2 hx hf (allOne_bytL bc) (by omega)
  have hS3 := (k3 kS (by omega) (by omega)).trans hS
  have ss := hSC.size; have sr := hSC.ro
  have wS : H.n ≤ kS ∨ WH H kS := .inl hH
  have hk32 : V.int .u32 (IntKind.u32.wrap (k : Int)) = U (BitVec.ofInt 32 k) := by rw [IntWalk.u32_in _ (by omega)]; exact u32_U (by omega) (by omega)
  have hkl3 := Heap.lt_of_get hS3
  have hg3 : n2 ≤ g3.n := by omega
  have oR : vR.one = true := (hR g fun _ _ _ _ => rfl).one
  have oB : v3.one = true := hb3.lv.one
  have cR : vR.cellsV = [vR] := (hR g fun _ _ _ _ => rfl).cells
  have cB : v3.cellsV = [v3] := hb3.lv.cells
  have hSC' : SC (cS.set 16 (U (BitVec.ofInt 32 k))) rs (BitVec.ofInt 32 k) := ⟨by rw [Blk.size_set]; exact ss, by rw [Blk.ro_set]; exact sr, fun j hj => by rw [Blk.get_set, if_neg (by omega)]; exact hSC.reg j hj, by rw [Blk.get_set, if_pos rfl]⟩
  have hs' := hSC'.size; have hpc' := hSC'.pc
  have a0 := hSC'.reg 0 (by omega); have a1 := hSC'.reg 1 (by omega); have a2 := hSC'.reg 2 (by omega); have a3 := hSC'.reg 3 (by omega); have a4 := hSC'.reg 4 (by omega); have a5 := hSC'.reg 5 (by omega); have a6 := hSC'.reg 6 (by omega); have a7 := hSC'.reg 7 (by omega)
  have a8 := hSC'.reg 8 (by omega); have a9 := hSC'.reg 9 (by omega); have a10 := hSC'.reg 10 (by omega); have a11 := hSC'.reg 11 (by omega); have a12 := hSC'.reg 12 (by omega); have a13 := hSC'.reg 13 (by omega); have a14 := hSC'.reg 14 (by omega); have a15 := hSC'.reg 15 (by omega)
  simp -implicitDefEqProofs (disch := (first | omega | (simp -implicitDefEqProofs only [szs, ne_eq] <;> omega) | fail)) only [go_sem, seval, ↓reduceIte, ir4_r10_eq, ir4_s10, t11, t12, appendV_of ap_23, hap]
  refine ⟨allB_of fun _ _ => trivial, allB_of fun b hb => by rcases hw3 b hb with rfl | h; exact .inl (by omega); exact .inl (by omega), ?_⟩
  simp -implicitDefEqProofs (disch := (first | omega | (simp -implicitDefEqProofs only [szs, ne_eq] <;> omega) | fail)) only [go_sem, seval, ↓reduceIte, ir4_r11_eq, ir4_s11, undefV, t5, t13, ↓cvD, cD, hk32, hS3, ss, sr, wS]
  generalize hcs : cS.set 16 (U (BitVec.ofInt 32 k)) = cs' at *
  simp -implicitDefEqProofs (disch := (first | omega | (simp -implicitDefEqProofs only [szs, ne_eq] <;> omega) | fail)) only [go_sem, seval, ↓reduceIte, ir4_r12_eq, ir4_s12, undefV, t5, t9, hs', hpc', a0, a1, a2, a3, a4, a5, a6, a7, a8, a9, a10, a11, a12, a13, a14, a15, ↓oR, ↓oB, ↓cR, ↓cB]
  refine ⟨.inl (by omega), ?_⟩
  simp -implicitDefEqProofs (disch := (first | omega | (simp -implicitDefEqProofs only [szs, ne_eq] <;> omega) | fail)) only [go_sem, seval, ↓reduceIte, ir4_r13_eq, ir4_s13]
  have hll : (l ++ lC).length = l.length + lC.length := List.length_append
  have hbF : badF q (decide (32 < Q.length)) Q.length = false := by rw [badF_ok fun i hi => hq i (by omega), decide_eq_false (by omega)]
  refine GCall.of (((mem11_ok (m := 0) (lB := l ++ lC) (Q := Q) (q := q) ⟨by omega, .inl ⟨rfl, .inl rfl⟩⟩ (by omega) ?_ (bl.app bc) (by omega) ?_ (by omega) hint 1).kept).foot (fun _ h => h) (fun _ h => h.elim)) ?_
  · refine (hb3.abv fun b h1 h2 => ?_).lv
    have : b ≠ kS := by omega
    simp -implicitDefEqProofs (disch := (first | omega | (simp -implicitDefEqProofs only [szs, ne_eq] <;> omega) | fail)) only [go_sem, seval]
  · refine hR _ fun b h1 h2 h3 => ?_
    rw [← k3 b h1 h2]
    simp -implicitDefEqProofs (disch := (first | omega | (simp -implicitDefEqProofs only [szs, ne_eq] <;> omega) | fail)) only [go_sem, seval]
  rintro r g5 ⟨hres, vf5⟩
  have hn5 := vf5.n
  simp only [Heap.n_set, Heap.n_push] at hn5
  have b5 := vf5.get kS (by simp only [Heap.n_set, Heap.n_push]; omega) id
  simp -implicitDefEqProofs (disch := (first | omega | (simp -implicitDefEqProofs only [szs, ne_eq] <;> omega) | fail)) only [go_sem, seval] at b5
  rcases hres with ⟨rfl, T, h1, h2, h3⟩ | ⟨fp, rm, vM, L, n0, n1, rfl, hn0, hn01, hfl, hfb, hln1, hrm, hrM⟩
  · exfalso
    rcases h3 with h3 | h3 | h3
    · omega
    · rw [hbF] at h3; cases h3
    · omega
  · simp only [Heap.n_set, Heap.n_push] at hn0 hln1
    simp -implicitDefEqProofs (disch := (first | omega | (simp -implicitDefEqProofs only [szs, ne_eq] <;> omega) | fail)) only [go_sem, seval, ↓reduceIte, ir4_r14_eq, ir4_s14]
    have hRg : ∀ g', (∀ b, b < g3.n → b ≠ kS → g'.get b = g3.get b) → LV g' vR Q := fun g' hg' => hR g' fun b h1 h2 h3 => by rw [hg' b (by omega) h3, k3 b h1 h2]
    refine once_c (cS := cs') (kS := kS) (fp := fp) (rm := rm) (n0 := n0) (n1 := n1) (L := L) (Q := Q) (q := q) (vM := vM) (vR := vR) hSC' b5 (by omega) (by omega) hn01 hfl hfb hrm hrM (fun g' hg' => ?_) ?_ (by simp -implicitDefEqProofs (disch := (first | omega | (simp -implicitDefEqProofs only [szs, ne_eq] <;> omega) | fail)) only [go_sem, seval, ↓reduceIte, t5]) (by simp -implicitDefEqProofs (disch := (first | omega | (simp -implicitDefEqProofs only [szs, ne_eq] <;> omega) | fail)) only [go_sem, seval, ↓reduceIte]) (by simp -implicitDefEqProofs (disch := (first | omega | (simp -implicitDefEqProofs only [szs, ne_eq] <;> omega) | fail)) only [go_sem, seval, ↓reduceIte])
    · refine hRg g' fun b hb hne => ?_
      rw [hg' b (by omega), vf5.get b (by simp only [Heap.n_set, Heap.n_push]; omega) id]
      simp -implicitDefEqProofs (disch := (first | omega | (simp -implicitDefEqProofs only [szs, ne_eq] <;> omega) | fail)) only [go_sem, seval]
    · exact (hRg (g3.push (.cells (Blk.of []) 3)) fun b hb hne => w_push_ne (by omega) _).sblk_lt (by simp only [Heap.n_push]; omega)
theorem and31 (n : Int) : ∃ p : Nat, p < 32 ∧ andI n 31 = (p : Int) := by
  refine ⟨(BitVec.ofInt 64 n &&& BitVec.ofInt 64 31).toNat, ?_, ?_⟩
  · rw [BitVec.toNat_and]
    exact Nat.lt_of_le_of_lt Nat.and_le_right (by decide)
  · have : (BitVec.ofInt 64 n &&& BitVec.ofInt 64 31).toNat < 32 := by
      rw [BitVec.toNat_and]
      exact Nat.lt_of_le_of_lt Nat.and_le_right (by decide)
    exact IntWalk.i64_in _ (by omega)
set_option maxHeartbeats 8000000 in
theorem once_law {H : Heap} (op d a b2 im page r : Int) : SF (Try.prog : MP) 4 [.agg [.int .i64 op, .int .i64 d, .int .i64 a, .int .i64 b2, .int .i64 im], .agg (regs17 rs pc), .int .i64 page, .int .i64 r] H (fun _ => True) (WH H) fun r _ => r = .bool true := by
  obtain ⟨p, hp, hpe⟩ := and31 page
  refine SF.go hm Try.func4 ir4_eq ?_
  rw [ir4_chain]
  by_cases r0 : r < 0
  · simp -implicitDefEqProofs (disch := (first | omega | (simp -implicitDefEqProofs only [szs, ne_eq] <;> omega) | fail)) only [go_sem, seval, ↓reduceIte, reduceCtorEq, ir4_r0_eq, ir4_s0, ir4_r1_eq, ir4_s1, ir4_r2_eq, ir4_s2, undefV, ↓and_eq, hpe]
    refine GCall.of (known_ok _ _ _) ?_
    rintro r g3 ⟨rfl, rfl⟩
    simp -implicitDefEqProofs (disch := (first | omega | (simp -implicitDefEqProofs only [szs, ne_eq] <;> omega) | fail)) only [go_sem, seval, ↓reduceIte, reduceCtorEq]
  by_cases r7 : 7 < r
  · simp -implicitDefEqProofs (disch := (first | omega | (simp -implicitDefEqProofs only [szs, ne_eq] <;> omega) | fail)) only [go_sem, seval, ↓reduceIte, reduceCtorEq, ir4_r0_eq, ir4_s0, ir4_r1_eq, ir4_s1, ir4_r2_eq, ir4_s2, ↓and_eq, hpe]
    refine GCall.of (known_ok _ _ _) ?_
    rintro r g3 ⟨rfl, rfl⟩
    simp -implicitDefEqProofs (disch := (first | omega | (simp -implicitDefEqProofs only [szs, ne_eq] <;> omega) | fail)) only [go_sem, seval, ↓reduceIte, reduceCtorEq]
  simp -implicitDefEqProofs (disch := (first | omega | (simp -implicitDefEqProofs only [szs, ne_eq] <;> omega) | fail)) only [go_sem, seval, ↓reduceIte, reduceCtorEq, ir4_r0_eq, ir4_s0, ir4_r1_eq, ir4_s1, ir4_r2_eq, ir4_s2, ir4_r3_eq, ir4_s3, ir4_r4_eq, ir4_s4, ↓and_eq, hpe]
  refine ints_loop (n2 := H.n + 1 + 1) (x2 := .int .i64 (p : Int)) (x3 := .int .i64 r) (x4 := .ptr (some (H.n, 0))) (x5 := .ptr (some (H.n + 1, 0))) (by simp only [Heap.n_push]; omega) (by omega) ?_ (by simp -implicitDefEqProofs (disch := (first | omega | (simp -implicitDefEqProofs only [szs, ne_eq] <;> omega) | fail)) only [go_sem, seval, ↓reduceIte, reduceCtorEq]) (by simp -implicitDefEqProofs (disch := (first | omega | (simp -implicitDefEqProofs only [szs, ne_eq] <;> omega) | fail)) only [go_sem, seval, ↓reduceIte, reduceCtorEq]) (by simp -implicitDefEqProofs (disch := (first | omega | (simp -implicitDefEqProofs only [szs, ne_eq] <;> omega) | fail)) only [go_sem, seval, ↓reduceIte, reduceCtorEq]) (by simp -implicitDefEqProofs (disch := (first | omega | (simp -implicitDefEqProofs only [szs, ne_eq] <;> omega) | fail)) only [go_sem, seval, ↓reduceIte, reduceCtorEq]) (by simp -implicitDefEqProofs (disch := (first | omega | (simp -implicitDefEqProofs only [szs, ne_eq] <;> omega) | fail)) only [go_sem, seval, ↓reduceIte, reduceCtorEq]) (by simp -implicitDefEqProofs (disch := (first | omega | (simp -implicitDefEqProofs only [szs, ne_eq] <;> omega) | fail)) only [go_sem, seval, ↓reduceIte, reduceCtorEq])
  intro tr g v t2 t3 t4 t5 t9 ho hgn hk
  obtain ⟨bR, yR, cR, rfl, hbR, hgR, hsR, hrR, _, hset⟩ := ho.set1 (i := p) (by rw [List.length_replicate]; exact hp)
  rw [List.length_replicate] at hsR
  have x4 := hk H.n (by omega)
  have x5 := hk (H.n + 1) (by omega)
  simp -implicitDefEqProofs (disch := (first | omega | (simp -implicitDefEqProofs only [szs, ne_eq] <;> omega) | fail)) only [go_sem, seval] at x4 x5
  have hlR := Heap.lt_of_get hgR
  have wR : H.n ≤ bR ∨ WH H bR := .inl (by omega)
  have ho2 := hset (.int .i64 r)
  simp only [List.length_replicate] at ho2 t9
  have hpc : ((pc.toNat : Int)).tmod 1024 = ((pc.toNat % 1024 : Nat) : Int) := rfl
  simp -implicitDefEqProofs (disch := (first | omega | (simp -implicitDefEqProofs only [szs, ne_eq] <;> omega) | fail)) only [go_sem, seval, ↓reduceIte, ir4_r5_eq, ir4_s5, ir4_r6_eq, ir4_s6, ir4_r7_eq, ir4_s7, undefV, t2, t3, t4, t9, hgR, hsR, hrR, wR, x4]
  have hll : (Blk.rep 64 [V.int .u8 0]).size = 64 := rfl
  refine GCall.of (((code_ok (m := 1) ⟨by omega, .inr ⟨g.n + 1, 0, 1, true, _, 50, rfl, w_push_eq (by simp only [Heap.n_set, Heap.n_push]) _, Nat.le_refl 5, fun i hi => ?_⟩⟩ (by omega)).kept).foot (fun _ h => h) (fun _ h => h.elim)) ?_
  · obtain rfl : i = 0 := by omega
    exact ⟨op, d, a, b2, im, rfl, rfl, rfl, rfl, rfl⟩
  rintro vc g2 ⟨⟨lC, oC, hlC, bC⟩, vf2⟩
  have hn2 := vf2.n
  simp only [Heap.n_set, Heap.n_push] at hn2
  have x5' := vf2.get (H.n + 1) (by simp only [Heap.n_set, Heap.n_push]; omega) id
  simp -implicitDefEqProofs (disch := (first | omega | (simp -implicitDefEqProofs only [szs, ne_eq] <;> omega) | fail)) only [go_sem, seval, x5] at x5'
  have xb := vf2.get g.n (by simp only [Heap.n_set, Heap.n_push]; omega) id
  simp -implicitDefEqProofs (disch := (first | omega | (simp -implicitDefEqProofs only [szs, ne_eq] <;> omega) | fail)) only [go_sem, seval] at xb
  have xR := vf2.get bR (by simp only [Heap.n_set, Heap.n_push]; omega) id
  simp -implicitDefEqProofs (disch := (first | omega | (simp -implicitDefEqProofs only [szs, ne_eq] <;> omega) | fail)) only [go_sem, seval] at xR
  have hp1 : IntKind.u32.wrap (((pc.toNat : Int)).tmod 1024) = ((pc.toNat % 1024 : Nat) : Int) := by rw [hpc]; exact IntWalk.u32_in _ (by omega)
  have hp2 : IntKind.i64.wrap ((pc.toNat % 1024 : Nat) : Int) = ((pc.toNat % 1024 : Nat) : Int) := IntWalk.i64_in _ (by omega)
  simp -implicitDefEqProofs (disch := (first | omega | (simp -implicitDefEqProofs only [szs, ne_eq] <;> omega) | fail)) only [go_sem, seval, ↓reduceIte, ir4_r8_eq, ir4_s8, undefV, t5, x5', ↓cvC, cC, ir4_r9_eq, ir4_s9]
  have ho3 : Own (H.n + 1 + 1) g2 (.slice (some (bR, 0)) 32 32 yR) ((List.replicate 32 (V.int .i64 7)).set p (.int .i64 r)) 3 := ho2.old fun b hb => by
    have hb' : b < g.n := by simpa using hb
    rw [vf2.get b (by simp only [Heap.n_set, Heap.n_push]; omega) id]
    simp -implicitDefEqProofs (disch := (first | omega | (simp -implicitDefEqProofs only [szs, ne_eq] <;> omega) | fail)) only [go_sem, seval]
  refine buf_loop (nb := g.n) (n2 := g2.n) (k := pc.toNat % 1024) (v0 := .slice (some (g.n, 0)) 0 64 true) (x5 := .ptr (some (H.n + 1, 0))) (x9 := .slice (some (bR, 0)) 32 32 yR) (x12 := vc) (by omega) (Nat.le_refl _) (by omega) (.inl ⟨by simp, _, rfl, xb, rfl, rfl, rfl⟩) (by omega) ?_ (by simp -implicitDefEqProofs (disch := (first | omega | (simp -implicitDefEqProofs only [szs, ne_eq] <;> omega) | fail)) only [go_sem, seval, ↓reduceIte, t5]) (by simp -implicitDefEqProofs (disch := (first | omega | (simp -implicitDefEqProofs only [szs, ne_eq] <;> omega) | fail)) only [go_sem, seval, ↓reduceIte, t9]) (by simp -implicitDefEqProofs (disch := (first | omega | (simp -implicitDefEqProofs only [szs, ne_eq] <;> omega) | fail)) only [go_sem, seval, ↓reduceIte]) (by simp -implicitDefEqProofs (disch := (first | omega | (simp -implicitDefEqProofs only [szs, ne_eq] <;> omega) | fail)) only [go_sem, seval, ↓reduceIte, hpc]) (by simp -implicitDefEqProofs (disch := (first | omega | (simp -implicitDefEqProofs only [szs, ne_eq] <;> omega) | fail)) only [go_sem, seval, ↓reduceIte])
  intro tr' g3 vb l s5 s9 s12 s13 s11 hb hl bl hn3 hk3
  simp -implicitDefEqProofs (disch := (first | omega | (simp -implicitDefEqProofs only [szs, ne_eq] <;> omega) | fail)) only [go_sem, seval, ↓reduceIte]
  have oC3 := oC.abv fun b h1 h2 => hk3 b h2 (by simp only [Heap.n_set, Heap.n_push] at h1; omega)
  refine once_b (nb := g.n) (n2 := g2.n) (kS := H.n + 1) (k := pc.toNat % 1024) (cS := Blk.of (regs17 rs pc)) (Q := (List.replicate 32 (V.int .i64 7)).set p (.int .i64 r)) (q := fun i => if i = p then r else 7) (SC.of rs pc) ((hk3 _ (by omega) (by omega)).trans x5') (by omega) (by omega) (by omega) hn3 hb bl hl (by omega) oC3.lv bC hlC (fun g' hg' => ?_) (by rw [List.length_set, List.length_replicate]) (fun i hi => ?_) (fun i hi => ?_) s5 s9 s11 s12 s13
  · refine (ho3.keep fun b c hb => ?_).lv
    have h1 : b ≠ g.n := fun e => by rw [e, xb] at hb; simp at hb
    have h2 : b ≠ H.n + 1 := fun e => by rw [e, x5'] at hb; simp at hb
    have h3 := Heap.lt_of_get hb
    rw [hg' b h3 h1 h2, hk3 b h3 h1]; exact hb
  · rw [List.length_set, List.length_replicate] at hi
    rw [List.getElem?_set, List.length_replicate]
    by_cases e : p = i
    · rw [if_pos e, if_pos hp, if_pos e.symm]
    · rw [if_neg e, if_neg fun h => e h.symm, List.getElem?_replicate, if_pos hi]
  · show 0 ≤ (if i = p then r else 7) ∧ (if i = p then r else 7) ≤ 7
    split <;> omega
end Go.Proofs.Ytmkdbninmimndaa
