/- CpuRuns: the walk. -/
import Derived.Test.YtmkdbninmimndaaG2
import Derived.Test.YtmkdbninmimndaaGE
import Derived.Test.YtmkdbninmimndaaChG
set_option linter.unusedVariables false
set_option maxRecDepth 100000
namespace Go.Proofs.Ytmkdbninmimndaa
open Go Go.Vm
variable {rs : Regs} {pc : BitVec 32}
theorem fewB_t {a b c : Nat} {n : Int} (h : fewB a b c n = true) : a ≤ 200 ∧ b ≤ 2000 ∧ c ≤ 32 ∧ n ≤ 2000 := of_decide_eq_true h
def runR (q : Nat → Int) (n : Int) (rs : Regs) (pc : BitVec 32) (L : List V) : Res := if n < 0 then ⟨fun _ => 0#32, 0#32, L, 0, 0, 0, 0, 0⟩ else runO q n.toNat 0 rs pc L
def runE (n : Int) : Int := if n < 0 then 2 else 0
abbrev resT (r : Res) (e : Int) : V := .tuple [.agg (regs17 r.rs r.pc), stopV r.kind r.call r.at' r.need r.used, .int .i64 e]
theorem bad_resT (L : List V) : badRes = resT ⟨fun _ => 0#32, 0#32, L, 0, 0, 0, 0, 0⟩ 2 := rfl
theorem run12_any {h : Heap} {fp n0 : Nat} {L Q : List V} {q : Nat → Int} (hf : FlatAt h fp n0 L Q q) (hn0 : n0 ≤ h.n) {n : Int} (hn : n ≤ 65536) :
    SF (Try.prog : MP) 12 [.agg (regs17 rs pc), .iface 32 (.ptr (some (fp, 0))), .int .i64 n] h (fun _ => True) (fun b => b = fblk h fp ∧ n0 ≤ b) fun v h' => (v = resT (runR q n rs pc L) (runE n) ∧ FlatAt h' fp n0 (runR q n rs pc L).L Q q ∧ h'.get fp = h.get fp) ∧ VF h h' (fun b => b = fblk h fp ∧ n0 ≤ b) := by
  by_cases h0 : n < 0
  · refine SF.mono (((run12_neg (rs := rs) (pc := pc) fp h0).kept).foot (fun _ h => h.elim) (fun _ h => h.elim)) ?_
    rintro v h' ⟨rfl, vf⟩
    have hk : ∀ b, b < h.n → h'.get b = h.get b := fun b hb => vf.get b hb id
    unfold runR runE
    rw [if_pos h0, if_pos h0]
    exact ⟨⟨bad_resT L, hf.old hk, hk _ hf.fb.1⟩, ⟨vf.n, fun b hb _ => hk b hb⟩⟩
  · obtain ⟨k, rfl⟩ := Int.eq_ofNat_of_zero_le (show 0 ≤ n by omega)
    unfold runR runE
    rw [if_neg h0, if_neg h0]
    exact (run12_ok (rs := rs) (pc := pc) hf hn0 (show k ≤ 65536 by omega)).kept
theorem run13_any {h : Heap} {rm n1 : Nat} {vB vr : V} {L Q : List V} {q : Nat → Int} (hmem : RM h rm n1 vB vr L) (rig : LV h vr Q ∧ L.length = Q.length * 256 ∧ Q.length ≤ 32 ∧ (∀ i, i < Q.length → Q[i]? = some (.int .i64 (q i))) ∧ BytL L) (lt : n1 ≤ h.n) (hvr : sblk vr < n1) (hsb : sblk vB < h.n) {n : Int} (hn : n ≤ 65536) :
    SF (Try.prog : MP) 13 [.agg (regs17 rs pc), .ptr (some (rm, 0)), .int .i64 n] h (fun _ => True) (fun b => b = sblk vB ∧ n1 ≤ b) fun v h' => (v = resT (runR q n rs pc L) (runE n) ∧ RM h' rm n1 vB vr (runR q n rs pc L).L) ∧ VF h h' (fun b => b = sblk vB ∧ n1 ≤ b) := by
  by_cases h0 : n < 0
  · refine SF.mono (((run13_neg (rs := rs) (pc := pc) rm h0).kept).foot (fun _ h => h.elim) (fun _ h => h.elim)) ?_
    rintro v h' ⟨rfl, vf⟩
    have hk : ∀ b, b < h.n → h'.get b = h.get b := fun b hb => vf.get b hb id
    unfold runR runE
    rw [if_pos h0, if_pos h0]
    exact ⟨⟨bad_resT L, hmem.keep fun b d e _ _ _ hb => by rw [hk _ (Heap.lt_of_get hb)]; exact hb⟩, ⟨vf.n, fun b hb _ => hk b hb⟩⟩
  · obtain ⟨k, rfl⟩ := Int.eq_ofNat_of_zero_le (show 0 ≤ n by omega)
    unfold runR runE
    rw [if_neg h0, if_neg h0]
    exact (run13_ok (rs := rs) (pc := pc) hmem rig lt hvr hsb (show k ≤ 65536 by omega)).kept
theorem Own.abv {n0 : Nat} {h h' : Heap} {v : V} {l : List V} {e : TypeId} (ho : Own n0 h v l e) (hk : ∀ b, n0 ≤ b → b < h.n → h'.get b = h.get b) : Own n0 h' v l e := by
  rcases ho with ⟨rfl, rfl | ⟨b, c, rfl, h1, hb', hr⟩⟩ | ⟨b, x, c, h0, rfl, h1, hb', hs⟩
  · exact .inl ⟨rfl, .inl rfl⟩
  · exact .inl ⟨rfl, .inr ⟨b, c, rfl, h1, by rw [hk b h1 (Heap.lt_of_get hb')]; exact hb', hr⟩⟩
  · exact .inr ⟨b, x, c, h0, rfl, h1, by rw [hk b h1 (Heap.lt_of_get hb')]; exact hb', hs⟩
theorem LV.sblk_lt {h : Heap} {v : V} {l : List V} (hv : LV h v l) {n1 : Nat} (hn : h.n < n1) : sblk v < n1 := by
  rcases hv with ⟨_, rfl | ⟨a, rfl⟩⟩ | ⟨b, o, cap, ex, c, ce, rfl, hb, _⟩
  · show 0 < n1; omega
  · show 0 < n1; omega
  · show b < n1; have := Heap.lt_of_get hb; omega
theorem RM.abv {h h' : Heap} {rm n1 : Nat} {vB vr : V} {L : List V} (hr : RM h rm n1 vB vr L) (hrm : n1 ≤ rm) (hk : ∀ b, n1 ≤ b → b < h.n → h'.get b = h.get b) : RM h' rm n1 vB vr L := by
  obtain ⟨⟨c, c1, c2⟩, ho⟩ := hr
  exact ⟨⟨c, by rw [hk rm hrm (Heap.lt_of_get c1)]; exact c1, c2⟩, ho.abv hk⟩
theorem FlatAt.rig {h : Heap} {fp n0 : Nat} {L Q : List V} {q : Nat → Int} (hf : FlatAt h fp n0 L Q q) {g : Heap} {vR : V} (hR : LV g vR Q) : LV g vR Q ∧ L.length = Q.length * 256 ∧ Q.length ≤ 32 ∧ (∀ i, i < Q.length → Q[i]? = some (.int .i64 (q i))) ∧ BytL L := ⟨hR, hf.len, hf.few, hf.int, hf.byt⟩
theorem bytesL {l : List V} (hb : BytL l) : Byt l := fun v hv => by
  obtain ⟨i, hi, e⟩ := List.mem_iff_getElem.1 hv
  obtain ⟨n, e2, hn⟩ := hb i hi
  rw [List.getElem?_eq_getElem hi, e] at e2
  exact ⟨n, Option.some.inj e2, hn⟩
abbrev stV (r : Res) : Blk := (Blk.of [.int .u32 0, .int .u32 0, .int .u32 0, .int .u32 0, .int .u32 0, .int .u32 0, .int .u32 0, .int .u32 0, .int .u32 0, .int .u32 0, .int .u32 0, .int .u32 0, .int .u32 0, .int .u32 0, .int .u32 0, .int .u32 0, .int .u32 0]).putA 0 (regs17 r.rs r.pc)
abbrev spV (r : Res) : Blk := (((((Blk.of [.int .i64 0, .int .i64 0, .int .u32 0, .int .i64 0, .int .i64 0]).set 0 (.int .i64 r.kind)).set 1 (.int .i64 r.call)).set 2 (.int .u32 (r.at' : Int))).set 3 (.int .i64 r.need)).set 4 (.int .i64 (r.used : Int))
set_option maxHeartbeats 8000000 in
theorem runs_tail {H g : Heap} {fp rm n0 n1 k6 k7 k9 k10 : Nat} {L Q : List V} {q : Nat → Int} {R : Res} {e : Int} {vM vR : V} (hfl : FlatAt g fp n0 L Q q) (hM : RM g rm n1 vM vR L) (x6 : g.get k6 = some (.cells (stV R) 28)) (x7 : g.get k7 = some (.cells (spV R) 38)) (x9 : g.get k9 = some (.cells (stV R) 28)) (x10 : g.get k10 = some (.cells (spV R) 38))
    {tr : Tr V} (t3 : tr.get 3 = some (.ptr (some (fp, 0)))) (t4 : tr.get 4 = some (.ptr (some (rm, 0)))) (t6 : tr.get 6 = some (.ptr (some (k6, 0)))) (t7 : tr.get 7 = some (.ptr (some (k7, 0)))) (t9 : tr.get 9 = some (.ptr (some (k9, 0)))) (t10 : tr.get 10 = some (.ptr (some (k10, 0)))) (t8 : tr.get 8 = some (.int .i64 e)) (t11 : tr.get 11 = some (.int .i64 e)) :
    GO (Try.prog : MP) (fun _ => True) (fun b => H.n ≤ b ∨ WH H b) none (Vm.Fin (Try.prog : MP) (fun _ => True) (fun b => H.n ≤ b ∨ WH H b) [ResultVar.tmp 2] fun r x => r = V.bool true) [.code ir3_r6] ⟨⟨73, tr⟩, []⟩ g := by
  simp -implicitDefEqProofs (disch := (first | omega | fail)) only [go_sem, seval, ↓reduceIte, ir3_r6_eq, ir3_s6, t3, t6, t7, t8, t9, t10, t11, x6, x7, x9, x10]
  have hbyt := bytesL hfl.byt
  refine GCallD.of (R' := fun _ => True) (W' := fun _ => False) (((bytes_ok (R := fun _ => True) (W := fun _ => False) hfl (fun b => trivial)).kept).foot (fun _ h => h) (fun _ h => h)) ?_
  rintro v1 g1 ⟨⟨o1, k1⟩, vf1⟩
  obtain ⟨cm, m1, ms, m0, m2⟩ := hM.1.c
  have m1' := (k1 _ (Heap.lt_of_get m1)).trans m1
  obtain ⟨rs1, hc1⟩ := conv_lv o1.lv hbyt
  obtain ⟨rs2, hrs2, hc2'⟩ := conv_lvB hM.2.lv hbyt
  have hc2 := hc2' g1 k1
  have hrm := Heap.lt_of_get m1
  simp -implicitDefEqProofs (disch := (first | omega | fail)) only [go_sem, seval, ↓reduceIte, t4, ↓cvSD, hc1, hc2, m1', ms, m0, sb_eq]
  refine GCallD.of (R' := fun _ => True) (W' := fun _ => False) (known_ok _ _ _) ?_
  rintro r g3 ⟨rfl, rfl⟩
  simp -implicitDefEqProofs (disch := (first | omega | fail)) only [go_sem, seval, ↓reduceIte]
  simp only [List.not_mem_nil, or_false, false_or, and_false, false_implies, implies_true, not_false_eq_true, List.mem_cons, and_true, true_and]
  refine ⟨⟨fun b hb h => by omega, fun b hb h => by have := hrs2 b h.2; omega⟩, ?_⟩
  simp -implicitDefEqProofs (disch := (first | omega | fail)) only [go_sem, seval, ↓reduceIte, ir3_r7, ir3_s7]
set_option maxHeartbeats 8000000 in
theorem runs_law {H : Heap} {vC vB vR : V} {m : Nat} {lB Q : List V} {q : Nat → Int} (hC : CodeV H vC m) (hB : LV H vB lB) (bB : BytL lB) (hR : LV H vR Q) (hQ : Q.length ≤ 9223372036854775807) (hint : ∀ i, i < Q.length → Q[i]? = some (.int .i64 (q i))) (n : Int) :
    SF (Try.prog : MP) 3 [startV vC vB vR rs pc n] H (fun _ => True) (WH H) fun r _ => r = .bool true := by
  have o1 := hC.one; have o2 := hB.one; have o3 := hR.one
  refine SF.go hm Try.func3 ir3_eq ?_
  rw [ir3_chain]
  simp -implicitDefEqProofs (disch := (first | omega | (simp -implicitDefEqProofs only [szs, ne_eq] <;> omega) | fail)) only [go_sem, seval, ↓reduceIte, reduceCtorEq, ir3_r0_eq, ir3_s0, ir3_r1_eq, ir3_s1, undefV]
  refine GCall.of (((few_ok (fun g => hC.lenV g) (fun g => hB.len23 g) (fun g => hR.len24 g) o1 o2 o3 n).kept).foot (fun _ h => h.elim) (fun _ h => h.elim)) ?_
  rintro r g1 ⟨rfl, vf1⟩
  have hn1 := vf1.n
  simp only [Heap.n_push] at hn1
  have k1 : ∀ b, b < H.n → g1.get b = H.get b := fun b hb => by
    rw [vf1.get b (by simp only [Heap.n_push]; omega) (by simp), w_push_ne (by omega)]
  have b1 := vf1.get H.n (by simp only [Heap.n_push]; omega) (by simp)
  rw [w_push_eq rfl] at b1
  cases hf : fewB m lB.length Q.length n with
  | false =>
    simp -implicitDefEqProofs (disch := (first | omega | (simp -implicitDefEqProofs only [szs, ne_eq] <;> omega) | fail)) only [go_sem, seval, ↓reduceIte, reduceCtorEq]
    refine GCall.of (known_ok _ _ _) ?_
    rintro r g3 ⟨rfl, rfl⟩
    simp -implicitDefEqProofs (disch := (first | omega | (simp -implicitDefEqProofs only [szs, ne_eq] <;> omega) | fail)) only [go_sem, seval, ↓reduceIte, reduceCtorEq]
  | true =>
    obtain ⟨l1, l2, l3, l4⟩ := fewB_t hf
    simp -implicitDefEqProofs (disch := (first | omega | (simp -implicitDefEqProofs only [szs, ne_eq] <;> omega) | fail)) only [go_sem, seval, ↓reduceIte, reduceCtorEq, ir3_r2_eq, ir3_s2, undefV, b1]
    refine GCall.of (((mem11_ok (hC.old k1) l1 (hB.old k1) bB l2 (hR.old k1) hQ hint n).kept).foot (fun _ _ => trivial) (fun _ h => h.elim)) ?_
    rintro r g2 ⟨hres, vf2⟩
    have hn2 := vf2.n
    have k2 : ∀ b, b < H.n → g2.get b = H.get b := fun b hb => by rw [vf2.get b (by omega) id, k1 b hb]
    have b2 := (vf2.get H.n (by omega) id).trans b1
    rcases hres with ⟨rfl, _⟩ | ⟨fp, rm, vM, L, n0, n1, rfl, hn0, hn01, hfl, hfb, hln1, hrm, hrM⟩
    · simp -implicitDefEqProofs (disch := (first | omega | (simp -implicitDefEqProofs only [szs, ne_eq] <;> omega) | fail)) only [go_sem, seval, ↓reduceIte, reduceCtorEq, ir3_r3_eq, ir3_s3]
      refine GCall.of (known_ok _ _ _) ?_
      rintro r g3 ⟨rfl, rfl⟩
      simp -implicitDefEqProofs (disch := (first | omega | (simp -implicitDefEqProofs only [szs, ne_eq] <;> omega) | fail)) only [go_sem, seval, ↓reduceIte, reduceCtorEq]
    · have hrg : rm < g2.n := by obtain ⟨c, c1, _⟩ := hrM.1.c; exact Heap.lt_of_get c1
      simp -implicitDefEqProofs (disch := (first | omega | (simp -implicitDefEqProofs only [szs, ne_eq] <;> omega) | fail)) only [go_sem, seval, ↓reduceIte, reduceCtorEq, ir3_r3_eq, ir3_s3, ir3_r4_eq, ir3_s4, undefV, b2, ↓mkI]
      refine GCall.of ((run12_any (rs := rs) (pc := pc) hfl (by omega) (show n ≤ 65536 by omega)).foot (fun _ h => h) (fun b h => .inl (Nat.le_trans (by omega) h.2))) ?_
      rintro r3 g3 ⟨⟨rfl, hfl3, hfp3⟩, vf3⟩
      have hfk := hfb.fblk
      have hn3 := vf3.n
      have k3 : ∀ b, b < g2.n → (b < g1.n ∨ n1 ≤ b) → g3.get b = g2.get b := fun b hb hc => vf3.get b hb fun hq => by omega
      have b3 := (k3 H.n (by omega) (.inl (by omega))).trans b2
      generalize hR0 : runR q n rs pc L = R at hfl3
      generalize he : runE n = e
      have hM3 := hrM.abv hrm fun b h1 h2 => k3 b h2 (.inr h1)
      have hR3 : LV g3 vR Q := hR.old fun b hb => by rw [k3 b (by omega) (.inl (by omega)), k2 b hb]
      simp -implicitDefEqProofs (disch := (first | omega | (simp -implicitDefEqProofs only [szs, ne_eq] <;> omega) | fail)) only [go_sem, seval, ↓reduceIte, reduceCtorEq, ir3_r5_eq, ir3_s5, undefV, b3]
      refine ⟨.inl (by omega), .inl (by omega), ?_⟩
      refine GCall.of ((run13_any (rs := rs) (pc := pc) (n1 := n1) (vB := vM) (vr := vR) (L := L) ?_ (hfl.rig (hR3.old ?_)) ?_ ?_ ?_ (show n ≤ 65536 by omega)).foot (fun _ h => h) (fun b h => .inl (Nat.le_trans (by omega) h.2))) ?_
      · exact hM3.abv hrm fun b h1 h2 => by simp -implicitDefEqProofs (disch := (first | omega | (simp -implicitDefEqProofs only [szs, ne_eq] <;> omega) | fail)) only [go_sem, seval]
      · intro b hb; simp -implicitDefEqProofs (disch := (first | omega | (simp -implicitDefEqProofs only [szs, ne_eq] <;> omega) | fail)) only [go_sem, seval]
      · simp only [Heap.n_set, Heap.n_push]; omega
      · exact hR.sblk_lt (by omega)
      · have := hM3.2.sblk_lt (by omega)
        simp only [Heap.n_set, Heap.n_push]; omega
      rintro r4 g4 ⟨⟨rfl, hM4⟩, vf4⟩
      rw [hR0] at hM4
      rw [hR0, he]
      have hn4 := vf4.n
      simp only [Heap.n_set, Heap.n_push] at hn4
      have hvM := hM3.2.sblk_lt (by omega)
      have vf4g : ∀ b, b < g3.n + 1 + 1 → b ≠ sblk vM → g4.get b = _ := fun b hb hq => vf4.get b (by simp only [Heap.n_set, Heap.n_push]; omega) fun hc => hq hc.1
      have k4 : ∀ b, b < n1 → g4.get b = g3.get b := fun b hb => by
        rw [vf4.get b (by simp only [Heap.n_set, Heap.n_push]; omega) fun hc => by omega]
        simp -implicitDefEqProofs (disch := (first | omega | (simp -implicitDefEqProofs only [szs, ne_eq] <;> omega) | fail)) only [go_sem, seval]
      have x6 := vf4g g3.n (by omega) (by omega)
      have x7 := vf4g (g3.n + 1) (by omega) (by omega)
      simp -implicitDefEqProofs (disch := (first | omega | (simp -implicitDefEqProofs only [szs, ne_eq] <;> omega) | fail)) only [go_sem, seval] at x6 x7
      have hfl4 := hfl3.below (hfb.same hfp3) (k4)
      simp -implicitDefEqProofs (disch := (first | omega | (simp -implicitDefEqProofs only [szs, ne_eq] <;> omega) | fail)) only [go_sem, seval, ↓reduceIte, reduceCtorEq, undefV]
      refine ⟨.inl (by omega), .inl (by omega), ?_⟩
      refine runs_tail (k6 := g3.n) (k7 := g3.n + 1) (k9 := g4.n) (k10 := g4.n + 1) (e := e) (fp := fp) (rm := rm) (n0 := n0) (n1 := n1) (L := R.L) (Q := Q) (q := q) (R := R) (vM := vM) (vR := vR) (hfl4.old fun b hb => ?_) (hM4.abv hrm fun b _ hb => ?_) ?_ ?_ ?_ ?_ (by simp -implicitDefEqProofs (disch := (first | omega | (simp -implicitDefEqProofs only [szs, ne_eq] <;> omega) | fail)) only [go_sem, seval, ↓reduceIte, reduceCtorEq]) (by simp -implicitDefEqProofs (disch := (first | omega | (simp -implicitDefEqProofs only [szs, ne_eq] <;> omega) | fail)) only [go_sem, seval, ↓reduceIte, reduceCtorEq]) (by simp -implicitDefEqProofs (disch := (first | omega | (simp -implicitDefEqProofs only [szs, ne_eq] <;> omega) | fail)) only [go_sem, seval, ↓reduceIte, reduceCtorEq]) (by simp -implicitDefEqProofs (disch := (first | omega | (simp -implicitDefEqProofs only [szs, ne_eq] <;> omega) | fail)) only [go_sem, seval, ↓reduceIte, reduceCtorEq]) (by simp -implicitDefEqProofs (disch := (first | omega | (simp -implicitDefEqProofs only [szs, ne_eq] <;> omega) | fail)) only [go_sem, seval, ↓reduceIte, reduceCtorEq]) (by simp -implicitDefEqProofs (disch := (first | omega | (simp -implicitDefEqProofs only [szs, ne_eq] <;> omega) | fail)) only [go_sem, seval, ↓reduceIte, reduceCtorEq]) (by simp -implicitDefEqProofs (disch := (first | omega | (simp -implicitDefEqProofs only [szs, ne_eq] <;> omega) | fail)) only [go_sem, seval, ↓reduceIte, reduceCtorEq]) (by simp -implicitDefEqProofs (disch := (first | omega | (simp -implicitDefEqProofs only [szs, ne_eq] <;> omega) | fail)) only [go_sem, seval, ↓reduceIte, reduceCtorEq])
      · simp -implicitDefEqProofs (disch := (first | omega | (simp -implicitDefEqProofs only [szs, ne_eq] <;> omega) | fail)) only [go_sem, seval]
      · simp -implicitDefEqProofs (disch := (first | omega | (simp -implicitDefEqProofs only [szs, ne_eq] <;> omega) | fail)) only [go_sem, seval]
      · simp -implicitDefEqProofs (disch := (first | omega | (simp -implicitDefEqProofs only [szs, ne_eq] <;> omega) | fail)) only [go_sem, seval, x6]
      · simp -implicitDefEqProofs (disch := (first | omega | (simp -implicitDefEqProofs only [szs, ne_eq] <;> omega) | fail)) only [go_sem, seval, x7]
      · simp -implicitDefEqProofs (disch := (first | omega | (simp -implicitDefEqProofs only [szs, ne_eq] <;> omega) | fail)) only [go_sem, seval]
      · simp -implicitDefEqProofs (disch := (first | omega | (simp -implicitDefEqProofs only [szs, ne_eq] <;> omega) | fail)) only [go_sem, seval]
end Go.Proofs.Ytmkdbninmimndaa
