/- do: a write; a disk of another one's bytes. -/
import Derived.Test.YtgkcbpagdfdpdaaDo2
set_option linter.unusedVariables false
set_option linter.unusedSimpArgs false
set_option linter.unusedSimpArgs false
set_option maxRecDepth 100000
set_option linter.unusedVariables false
set_option linter.unusedSimpArgs false
namespace Go.Proofs.Ytgkcbpagdfdpdaa
open Go Go.Vm
attribute [-go_sem] sz_67
theorem Own.same {n0 : Nat} {h h' : Heap} {v : V} {l : List V} {e : TypeId} (ho : Own n0 h v l e) (hk : ∀ b, n0 ≤ b → b < h.n → h'.get b = h.get b) : Own n0 h' v l e := by
  rcases ho with ⟨rfl, rfl | ⟨b, c, rfl, h1, hb, hr⟩⟩ | ⟨b, x, c, h0, rfl, h1, hb, hs⟩
  · exact .inl ⟨rfl, .inl rfl⟩
  · exact .inl ⟨rfl, .inr ⟨b, c, rfl, h1, (hk _ h1 (Heap.lt_of_get hb)).trans hb, hr⟩⟩
  · exact .inr ⟨b, x, c, h0, rfl, h1, (hk _ h1 (Heap.lt_of_get hb)).trans hb, hs⟩
set_option maxHeartbeats 4000000 in
theorem do_write {K : Nat} {h : Heap} {P W S : Set'} {bd rd fb pb : Nat} {L : DL} {D : DS} (p : Pair P h bd L D S rd fb pb) (few : ∀ s, (D.pe s).length ≤ K) (hK : K < 900000) (hW : ∀ b, P b → W b) {a m : Int} (d kv : V) {l : List V} (hdv : BytesV h (fun b => ¬ P b ∧ b < h.n) d l) (hl : l.length ≤ 100000000) (hk1 : kv.one = true) :
    SF ⟨Try.prog, true⟩ 25 [.ptr (some (bd, 0)), .ptr (some (rd, 0)), .agg [.int .i64 1, .int .i64 a, .int .i64 m, d, kv]] h (fun _ => True) W (DoQ P h.n K) := by
  have hd1 := hdv.one
  have hbyt : Byt l := hdv.2.1
  have hlr : LR h (fun b => ¬ P b ∧ b < h.n) d l := hdv.2.2
  have hlen := hlr.lenV Try.underlying33
  refine SF.go hm Try.func25 ir25_eq ?_
  obtain ⟨h2, e2, n2, ⟨sb, s0, s1, y0, y1, y2, y3, y4⟩, k2⟩ := stD h 1 a m d kv
  have p2 := p.old (by omega) k2
  have hlr2 := hlr.old k2
  have hW2 : ∀ b, P b → (h.n ≤ b ∨ W b) := fun b hb => .inr (hW b hb)
  obtain ⟨hx1, rs, hx2, _⟩ := first_lr hlr2
  obtain ⟨v1, g1, r1, w1, hap1, o1, m1, k1, hw1, _⟩ := app_own (n0 := h2.n) (h := h2) (v := .slice none 0 0 true) (x := d) (l := []) (e := 5) (bytes := 1) (Own.nil _ _ _) (Nat.le_refl _) hx1 hx2 (allOne_byt hbyt) (by simp only [List.length_nil]; omega) (by simp only [List.length_nil]; omega)
  rw [List.nil_append] at o1
  obtain ⟨v2, g2, r2, w2, hap2, o2, m2, k3, hw2, _⟩ := app_own (n0 := h2.n) (h := g1.push (.cells (Blk.of [.int .u8 119]) 5)) (v := v1) (x := .slice (some (g1.n, 0)) 1 1 true) (l := l) (news := [.int .u8 119]) (e := 5) (bytes := 1) (o1.old fun b hb => by simp -implicitDefEqProofs (disch := (first | omega | (simp -implicitDefEqProofs only [szs, ne_eq] <;> omega) | fail)) only [go_sem, Nat.reduceAdd, Nat.reduceSub, Nat.reduceMul, Nat.reduceLT, Nat.reduceMod, Nat.reduceDiv, Nat.reduceEqDiff, Nat.reduceBEq, Nat.reduceLeDiff, ↓reduceIte, reduceCtorEq, Int.reduceAdd, Int.reduceSub, Int.reduceLT, Int.reduceLE, Int.reduceBEq, Int.reduceEq, Int.reduceToNat]) (by simp; omega) rfl (first_one (e := 5) (by simp -implicitDefEqProofs (disch := (first | omega | (simp -implicitDefEqProofs only [szs, ne_eq] <;> omega) | fail)) only [go_sem, Nat.reduceAdd, Nat.reduceSub, Nat.reduceMul, Nat.reduceLT, Nat.reduceMod, Nat.reduceDiv, Nat.reduceEqDiff, Nat.reduceBEq, Nat.reduceLeDiff, ↓reduceIte, reduceCtorEq, Int.reduceAdd, Int.reduceSub, Int.reduceLT, Int.reduceLE, Int.reduceBEq, Int.reduceEq, Int.reduceToNat])) rfl (by simp only [List.length_cons, List.length_nil]; omega) (by simp only [List.length_cons, List.length_nil]; omega)
  have ha1 : allB (fun b => h.n ≤ b ∨ W b) w1 := allB_of fun b hb => .inl (by have := hw1 b hb; omega)
  have ha2 : allB (fun b => h.n ≤ b ∨ W b) w2 := allB_of fun b hb => .inl (by have := hw2 b hb; omega)
  have k12 : ∀ b, b < h2.n → g2.get b = h2.get b := fun b hb => by rw [k3 b hb, ← k1 b hb]; simp -implicitDefEqProofs (disch := (first | omega | (simp -implicitDefEqProofs only [szs, ne_eq] <;> omega) | fail)) only [go_sem, Nat.reduceAdd, Nat.reduceSub, Nat.reduceMul, Nat.reduceLT, Nat.reduceMod, Nat.reduceDiv, Nat.reduceEqDiff, Nat.reduceBEq, Nat.reduceLeDiff, ↓reduceIte, reduceCtorEq, Int.reduceAdd, Int.reduceSub, Int.reduceLT, Int.reduceLE, Int.reduceBEq, Int.reduceEq, Int.reduceToNat]
  have hgn2 : h2.n ≤ g2.n := by simp at m2; omega
  obtain ⟨vs, hsl, hvs, hcs⟩ := slice_own o2
  have p3 := p2.old hgn2 k12
  have hlr3 := hlr2.old k12
  have s0' := (k12 _ (Heap.lt_of_get s0)).trans s0
  simp -implicitDefEqProofs (disch := (first | omega | (simp -implicitDefEqProofs only [szs, ne_eq] <;> omega) | fail)) only [go_sem, Nat.reduceAdd, Nat.reduceSub, Nat.reduceMul, Nat.reduceLT, Nat.reduceMod, Nat.reduceDiv, Nat.reduceEqDiff, Nat.reduceBEq, Nat.reduceLeDiff, ↓reduceIte, reduceCtorEq, Int.reduceAdd, Int.reduceSub, Int.reduceLT, Int.reduceLE, Int.reduceBEq, Int.reduceEq, Int.reduceToNat, ir25, e2, s0, s1, y0, y1, y3, hd1, hk1, undefV, appendV_of ap_33, hap1, hap2, ha1, ha2, allB_T, s0', ↓hlen, hsl]
  refine GCallD.of (R' := fun _ => True) (W' := Foot bd L D) (write_any (a := a) p3.d hvs hbyt (fun s => by have := few s; omega)).kept ?_
  rintro v g3 ⟨⟨rfl, L', hd4, hfoot⟩, vf4⟩
  have n4 := vf4.n
  have hlt := p2.d.lt
  have kk : ∀ b, b < g2.n → ¬ Foot bd L D b → g3.get b = g2.get b := vf4.get
  have o4 : Own h2.n g3 v2 (l ++ [.int .u8 119]) 5 := Own.same o2 fun b h1 h3 => kk b h3 fun hf => by have := hlt b hf; omega
  have p4d : DiskAt g3 bd L' (wrD D a l) := hd4
  have r4 := p3.r.same (h' := g3) fun b hb hl => kk b hl fun hf => p.sep b hf hb
  have hlr4 := hlr3.same (h' := g3) fun b hb hl => kk b hl fun hf => hb.1 (p.dP b hf)
  have s0'' := (kk _ (by omega) (fun hf => by have := p.d.lt _ hf; omega)).trans s0'
  obtain ⟨rsA, _, hcA'⟩ := conv_lr (o4.lr.mono (R' := fun _ => True) fun _ _ _ => trivial) (byt_app hbyt)
  have hcA := hcA' g3 (fun _ _ _ => rfl)
  obtain ⟨rsB, _, hcB'⟩ := conv_lr hlr4 hbyt
  have hcB := hcB' g3 (fun _ _ _ => rfl)
  have hadd := sb_add2 (l := l) (by omega)
  simp -implicitDefEqProofs (disch := (first | omega | (simp -implicitDefEqProofs only [szs, ne_eq] <;> omega) | fail)) only [go_sem, Nat.reduceAdd, Nat.reduceSub, Nat.reduceMul, Nat.reduceLT, Nat.reduceMod, Nat.reduceDiv, Nat.reduceEqDiff, Nat.reduceBEq, Nat.reduceLeDiff, ↓reduceIte, reduceCtorEq, Int.reduceAdd, Int.reduceSub, Int.reduceLT, Int.reduceLE, Int.reduceBEq, Int.reduceEq, Int.reduceToNat, ↓cv_op, hcA, hcB, hadd, sb_eql, allB_T, s0'', s1, y3, undefV]
  refine ⟨fun b _ hf => hW2 b (p.dP b hf), ?_⟩
  have hle : (l ++ [V.int IntKind.u8 119]).length ≤ 1000000000 := by simp; omega
  refine own_loop25 (n0 := h2.n) (v0 := .ptr (some (bd, 0))) (v1 := .ptr (some (rd, 0))) (v5 := .ptr (some (h.n, 0))) (v10 := .int .i64 (wrE D a l)) (v11 := .bool true) o4 hle (fun b hb => .inl (by omega)) ?_ (by simp -implicitDefEqProofs (disch := (first | omega | (simp -implicitDefEqProofs only [szs, ne_eq] <;> omega) | fail)) only [go_sem, Nat.reduceAdd, Nat.reduceSub, Nat.reduceMul, Nat.reduceLT, Nat.reduceMod, Nat.reduceDiv, Nat.reduceEqDiff, Nat.reduceBEq, Nat.reduceLeDiff, ↓reduceIte, reduceCtorEq, Int.reduceAdd, Int.reduceSub, Int.reduceLT, Int.reduceLE, Int.reduceBEq, Int.reduceEq, Int.reduceToNat]) (by simp -implicitDefEqProofs (disch := (first | omega | (simp -implicitDefEqProofs only [szs, ne_eq] <;> omega) | fail)) only [go_sem, Nat.reduceAdd, Nat.reduceSub, Nat.reduceMul, Nat.reduceLT, Nat.reduceMod, Nat.reduceDiv, Nat.reduceEqDiff, Nat.reduceBEq, Nat.reduceLeDiff, ↓reduceIte, reduceCtorEq, Int.reduceAdd, Int.reduceSub, Int.reduceLT, Int.reduceLE, Int.reduceBEq, Int.reduceEq, Int.reduceToNat]) (by simp -implicitDefEqProofs (disch := (first | omega | (simp -implicitDefEqProofs only [szs, ne_eq] <;> omega) | fail)) only [go_sem, Nat.reduceAdd, Nat.reduceSub, Nat.reduceMul, Nat.reduceLT, Nat.reduceMod, Nat.reduceDiv, Nat.reduceEqDiff, Nat.reduceBEq, Nat.reduceLeDiff, ↓reduceIte, reduceCtorEq, Int.reduceAdd, Int.reduceSub, Int.reduceLT, Int.reduceLE, Int.reduceBEq, Int.reduceEq, Int.reduceToNat]) (by simp -implicitDefEqProofs (disch := (first | omega | (simp -implicitDefEqProofs only [szs, ne_eq] <;> omega) | fail)) only [go_sem, Nat.reduceAdd, Nat.reduceSub, Nat.reduceMul, Nat.reduceLT, Nat.reduceMod, Nat.reduceDiv, Nat.reduceEqDiff, Nat.reduceBEq, Nat.reduceLeDiff, ↓reduceIte, reduceCtorEq, Int.reduceAdd, Int.reduceSub, Int.reduceLT, Int.reduceLE, Int.reduceBEq, Int.reduceEq, Int.reduceToNat]) (by simp -implicitDefEqProofs (disch := (first | omega | (simp -implicitDefEqProofs only [szs, ne_eq] <;> omega) | fail)) only [go_sem, Nat.reduceAdd, Nat.reduceSub, Nat.reduceMul, Nat.reduceLT, Nat.reduceMod, Nat.reduceDiv, Nat.reduceEqDiff, Nat.reduceBEq, Nat.reduceLeDiff, ↓reduceIte, reduceCtorEq, Int.reduceAdd, Int.reduceSub, Int.reduceLT, Int.reduceLE, Int.reduceBEq, Int.reduceEq, Int.reduceToNat]) (by simp -implicitDefEqProofs (disch := (first | omega | (simp -implicitDefEqProofs only [szs, ne_eq] <;> omega) | fail)) only [go_sem, Nat.reduceAdd, Nat.reduceSub, Nat.reduceMul, Nat.reduceLT, Nat.reduceMod, Nat.reduceDiv, Nat.reduceEqDiff, Nat.reduceBEq, Nat.reduceLeDiff, ↓reduceIte, reduceCtorEq, Int.reduceAdd, Int.reduceSub, Int.reduceLT, Int.reduceLE, Int.reduceBEq, Int.reduceEq, Int.reduceToNat]) (by simp -implicitDefEqProofs (disch := (first | omega | (simp -implicitDefEqProofs only [szs, ne_eq] <;> omega) | fail)) only [go_sem, Nat.reduceAdd, Nat.reduceSub, Nat.reduceMul, Nat.reduceLT, Nat.reduceMod, Nat.reduceDiv, Nat.reduceEqDiff, Nat.reduceBEq, Nat.reduceLeDiff, ↓reduceIte, reduceCtorEq, Int.reduceAdd, Int.reduceSub, Int.reduceLT, Int.reduceLE, Int.reduceBEq, Int.reduceEq, Int.reduceToNat])
  intro tr g5 u0 u1 u5 u10 u11 n5 k5 k5'
  have hsb : sblk v2 < g2.n := o2.sblk_lt (by omega)
  have hd5 : DiskAt g5 bd L' (wrD D a l) := hd4.same fun b hb hlb => by
    rcases hfoot b hb with hf | hf
    · exact k5 b (hlt b hf)
    · exact k5' b (by omega)
  have r5 := r4.same (h' := g5) fun b hb _ => k5 b (p2.sl b hb)
  have hlr5 := hlr4.same (h' := g5) fun b hb _ => k5 b (by omega)
  have s5 := (k5 h.n (by omega)).trans s0''
  have hfew5 : ∀ s, ((wrD D a l).pe s).length < 1000000 := fun s => by have := wrD_few (a := a) (l := l) few s; omega
  simp -implicitDefEqProofs (disch := (first | omega | (simp -implicitDefEqProofs only [szs, ne_eq] <;> omega) | fail)) only [go_sem, Nat.reduceAdd, Nat.reduceSub, Nat.reduceMul, Nat.reduceLT, Nat.reduceMod, Nat.reduceDiv, Nat.reduceEqDiff, Nat.reduceBEq, Nat.reduceLeDiff, ↓reduceIte, reduceCtorEq, Int.reduceAdd, Int.reduceSub, Int.reduceLT, Int.reduceLE, Int.reduceBEq, Int.reduceEq, Int.reduceToNat, u0, u1, u5, u10, u11, undefV]
  refine GCallD.of (R' := fun _ => True) (W' := fun _ => False) (num_ok _) ?_
  rintro v g5 ⟨rfl, rfl⟩
  simp -implicitDefEqProofs (disch := (first | omega | (simp -implicitDefEqProofs only [szs, ne_eq] <;> omega) | fail)) only [go_sem, Nat.reduceAdd, Nat.reduceSub, Nat.reduceMul, Nat.reduceLT, Nat.reduceMod, Nat.reduceDiv, Nat.reduceEqDiff, Nat.reduceBEq, Nat.reduceLeDiff, ↓reduceIte, reduceCtorEq, Int.reduceAdd, Int.reduceSub, Int.reduceLT, Int.reduceLE, Int.reduceBEq, Int.reduceEq, Int.reduceToNat, u0, u1, u5, u10, u11, s5, s1, y1, y3, undefV]
  refine GCallD.of (R' := fun _ => True) (W' := S) (rwrite_any (a := a) r5 (hlr5.mono fun _ _ _ => trivial) hbyt (fun s => by have := few s; omega)).kept ?_
  rintro v g6 ⟨⟨rfl, n6, hr6⟩, vf6⟩
  simp -implicitDefEqProofs (disch := (first | omega | (simp -implicitDefEqProofs only [szs, ne_eq] <;> omega) | fail)) only [go_sem, Nat.reduceAdd, Nat.reduceSub, Nat.reduceMul, Nat.reduceLT, Nat.reduceMod, Nat.reduceDiv, Nat.reduceEqDiff, Nat.reduceBEq, Nat.reduceLeDiff, ↓reduceIte, reduceCtorEq, Int.reduceAdd, Int.reduceSub, Int.reduceLT, Int.reduceLE, Int.reduceBEq, Int.reduceEq, Int.reduceToNat, u0, u1, u5, u10, u11, undefV]
  refine ⟨?_, ?_, ?_⟩
  · simp only [List.not_mem_nil, or_false, false_or, and_false, false_and, false_implies, implies_true, not_false_eq_true, List.mem_singleton, List.mem_cons, and_true, true_and, forall_const]
    all_goals (try and_intros)
    all_goals (intros; omega)
  · and_intros
    all_goals (intros; first | exact hW2 _ (p.sP _ (by assumption)) | exact (by assumption : False).elim)
  refine ⟨bd, L', wrD D a l, Rn S g5.n g6.n, rd, fb, pb, rfl, ⟨hd5.same fun b hb hlb => vf6.get b hlb fun hs => ?_, hr6, fun b hb hs => ?_, fun b hb => ?_, fun b hb => ?_, fun b hb => ?_⟩, wrD_few few⟩
  · rcases hfoot b hb with hf | hf
    · exact p.sep b hf hs
    · have := p2.sl b hs; omega
  · rcases hs with hs | hs
    · rcases hfoot b hb with hf | hf
      · exact p.sep b hf hs
      · have := p2.sl b hs; omega
    · have := hd5.lt b hb; omega
  · rcases hfoot b hb with hf | hf
    · exact .inl (p.dP b hf)
    · exact .inr (by omega)
  · rcases hb with hb | hb
    · exact .inl (p.sP b hb)
    · exact .inr (by omega)
  · rcases hb with hb | hb
    · have := p2.sl b hb; omega
    · exact hb.2
theorem RefFresh.refx {h : Heap} {n0 rd n : Nat} {F : Nat → List V} {sb : Nat → Nat} (hf : RefFresh h n0 rd n F sb) (hn : 1 ≤ n ∧ n ≤ 4096) (hF : ∀ s, s < n → IsSec (F s)) : ∃ fb pb, RefX h (fun b => n0 ≤ b ∧ b < h.n) rd fb pb ⟨n, F, fun _ => [], 0⟩ := by
  obtain ⟨c, fb, pb, xf, c1, cs, cr, c0, c2, c3, rf, rp, ⟨cf, f1, f2, f3, f4⟩, p1⟩ := hf.d
  have hN := secN_eq
  have e1 : rd ≠ fb := fun e => by rw [e, f1] at c1; cases c1
  have e2 : rd ≠ pb := fun e => by rw [e, p1] at c1; cases c1
  have e3 : fb ≠ pb := fun e => by rw [e, p1] at f1; cases f1
  refine ⟨fb, pb, hn, ⟨⟨hf.lo, Heap.lt_of_get c1⟩, ⟨rf, Heap.lt_of_get f1⟩, ⟨rp, Heap.lt_of_get p1⟩⟩, ⟨c, xf, true, c1, cs, cr, c0, c2, c3⟩, ⟨cf, f1, f2, f3, fun s hs => ?_⟩, ⟨_, p1, rfl, rfl, fun s hs => ?_⟩, hF, fun s l hl => by simp at hl, fun s hs => rfl, fun s => by simp⟩
  · obtain ⟨h1, cc, q1, q2, q3, q4⟩ := hf.s s hs
    have hl := (hF s hs).1
    rw [f4 s hs]
    refine .inr ⟨sb s, 0, 128, true, cc, 5, by rw [hl, hN], ⟨⟨h1, Heap.lt_of_get q1⟩, fun e => ?_, fun e => ?_, fun e => ?_⟩, q1, by rw [q2]; show 0 + (F s).length ≤ 128; omega, by show cc.gets 0 (F s).length = F s; rw [hl]; exact q4⟩
    · rw [e, c1] at q1; cases q1
    · rw [e, f1] at q1; cases q1
    · rw [e, p1] at q1; cases q1
  · rw [rep_get, show s % [V.slice none 0 0 true].length = 0 from Nat.mod_one s]
    exact PLs.nil _ _
set_option maxHeartbeats 4000000 in
theorem do_of {K : Nat} {h : Heap} {P W S : Set'} {bd rd fb pb : Nat} {L : DL} {D : DS} (p : Pair P h bd L D S rd fb pb) (hW : ∀ b, P b → W b) {a m : Int} (d kv : V) (hd1 : d.one = true) (hk1 : kv.one = true) :
    SF ⟨Try.prog, true⟩ 25 [.ptr (some (bd, 0)), .ptr (some (rd, 0)), .agg [.int .i64 5, .int .i64 a, .int .i64 m, d, kv]] h (fun _ => True) W (DoQ P h.n K) := by
  refine SF.go hm Try.func25 ir25_eq ?_
  obtain ⟨h2, e2, n2, ⟨sb, s0, s1, y0, y1, y2, y3, y4⟩, k2⟩ := stD h 5 a m d kv
  have p2 := p.old (by omega) k2
  have hp := p2.d.pos
  simp -implicitDefEqProofs (disch := (first | omega | (simp -implicitDefEqProofs only [szs, ne_eq] <;> omega) | fail)) only [go_sem, Nat.reduceAdd, Nat.reduceSub, Nat.reduceMul, Nat.reduceLT, Nat.reduceMod, Nat.reduceDiv, Nat.reduceEqDiff, Nat.reduceBEq, Nat.reduceLeDiff, ↓reduceIte, reduceCtorEq, Int.reduceAdd, Int.reduceSub, Int.reduceLT, Int.reduceLE, Int.reduceBEq, Int.reduceEq, Int.reduceToNat, ir25, e2, s0, s1, y0, hd1, hk1, undefV]
  refine GCall.of (((bytes_ok (R := fun _ => True) p2.d (fun _ _ => trivial)).any.kept).foot (fun _ h => h) (fun _ h => h)) ?_
  rintro v g1 ⟨⟨rfl, n1, ⟨cc, q1, q2, q3, q4⟩, k1⟩, _⟩
  have p3 := p2.old (by omega) k1
  have hfl := flatF_len p2.d.fl
  have hlr : LR g1 (fun b => h2.n ≤ b) (.slice (some (h2.n, 0)) (D.n * 128) (D.n * 128) true) (flatF D.fl D.n) := .inr ⟨h2.n, 0, D.n * 128, true, cc, 5, by rw [hfl], Nat.le_refl _, q1, by rw [hfl, q2]; omega, by rw [hfl]; exact q4⟩
  simp -implicitDefEqProofs (disch := (first | omega | (simp -implicitDefEqProofs only [szs, ne_eq] <;> omega) | fail)) only [go_sem, Nat.reduceAdd, Nat.reduceSub, Nat.reduceMul, Nat.reduceLT, Nat.reduceMod, Nat.reduceDiv, Nat.reduceEqDiff, Nat.reduceBEq, Nat.reduceLeDiff, ↓reduceIte, reduceCtorEq, Int.reduceAdd, Int.reduceSub, Int.reduceLT, Int.reduceLE, Int.reduceBEq, Int.reduceEq, Int.reduceToNat]
  refine GCall.of (of_ok hlr (Nat.le_refl _) (flatF_int p2.d.fl) hfl hp (fun _ => trivial)).any ?_
  rintro v g2 ⟨L', rfl, hfb, hmb, hd4, k3⟩
  simp -implicitDefEqProofs (disch := (first | omega | (simp -implicitDefEqProofs only [szs, ne_eq] <;> omega) | fail)) only [go_sem, Nat.reduceAdd, Nat.reduceSub, Nat.reduceMul, Nat.reduceLT, Nat.reduceMod, Nat.reduceDiv, Nat.reduceEqDiff, Nat.reduceBEq, Nat.reduceLeDiff, ↓reduceIte, reduceCtorEq, Int.reduceAdd, Int.reduceSub, Int.reduceLT, Int.reduceLE, Int.reduceBEq, Int.reduceEq, Int.reduceToNat, Option.isNone_some, undefV]
  refine GCall.of (num_ok 0).any ?_
  rintro w g2 ⟨rfl, rfl⟩
  have q1' := (k3 _ (Heap.lt_of_get q1)).trans q1
  obtain ⟨x0, hx0⟩ : ∃ n : Int, cc.get 0 = .int .u8 n := by
    have h1 := Blk.gets_get cc (D.n * 128) 0 0 (by omega)
    rw [q4] at h1
    obtain ⟨n, hn, _⟩ := flatF_int p2.d.fl (cc.get 0) (List.mem_of_getElem? h1)
    exact ⟨n, hn⟩
  have hlt2 : h2.n < g2.n := Heap.lt_of_get q1'
  have hpos : (0 : Int) < ((D.n * 128 : Nat) : Int) := by omega
  have hpos2 : 0 < D.n * 128 := by omega
  simp -implicitDefEqProofs (disch := (first | omega | (simp -implicitDefEqProofs only [szs, ne_eq] <;> omega) | fail)) only [go_sem, Nat.reduceAdd, Nat.reduceSub, Nat.reduceMul, Nat.reduceLT, Nat.reduceMod, Nat.reduceDiv, Nat.reduceEqDiff, Nat.reduceBEq, Nat.reduceLeDiff, ↓reduceIte, reduceCtorEq, Int.reduceAdd, Int.reduceSub, Int.reduceLT, Int.reduceLE, Int.reduceBEq, Int.reduceEq, Int.reduceToNat, hpos, hpos2, q1', q2, q3, hx0, undefV]
  obtain ⟨g3, eg3, n3, k4⟩ : ∃ g3, g2.set h2.n (O.cells (cc.set 0 (V.int IntKind.u8 (IntKind.u8.wrap (x0 + 1)))) 5) = g3 ∧ g3.n = g2.n ∧ ∀ b, b ≠ h2.n → g3.get b = g2.get b := ⟨_, rfl, by simp, fun b hb => w_set_ne hlt2 hb _⟩
  rw [eg3]
  have hltd := hd4.lt
  have hfx : ∀ b, Foot (g1.n + 2) L' (DS.ofB (flatF D.fl D.n) D.n) b → g1.n ≤ b ∧ b < g2.n := fun b hb => ⟨by
    rcases hb with rfl | rfl | rfl | ⟨x, hx, _⟩
    · omega
    · exact hfb
    · exact hmb
    · exact absurd rfl hx, hltd b hb⟩
  have hd5 := hd4.same (h' := g3) fun b hb _ => k4 b (by have := (hfx b hb).1; omega)
  have r3 : RefX g3 S rd fb pb D := p3.r.same fun b hb hl => by
    have h1 := p2.sl b hb
    rw [k4 b (by omega), k3 b (by omega)]
  refine ⟨.inl (by omega), ?_⟩
  refine GCall.of ((rbytes_ok r3.at (fun _ => trivial)).any.kept) ?_
  rintro v g4 ⟨⟨o4, k5⟩, vf4⟩
  have n4 := vf4.n
  have hcap : capOk v := by
    rcases o4 with ⟨_, rfl | ⟨b, c, rfl, _⟩⟩ | ⟨b, x, c, _, rfl, _⟩
    · exact Nat.le_refl _
    · exact Nat.le_refl _
    · exact Nat.le_refl _
  simp -implicitDefEqProofs (disch := (first | omega | (simp -implicitDefEqProofs only [szs, ne_eq] <;> omega) | fail)) only [go_sem, Nat.reduceAdd, Nat.reduceSub, Nat.reduceMul, Nat.reduceLT, Nat.reduceMod, Nat.reduceDiv, Nat.reduceEqDiff, Nat.reduceBEq, Nat.reduceLeDiff, ↓reduceIte, reduceCtorEq, Int.reduceAdd, Int.reduceSub, Int.reduceLT, Int.reduceLE, Int.reduceBEq, Int.reduceEq, Int.reduceToNat]
  refine GCall.of ((rof_ok o4.lr hcap (flatF_int p2.d.fl) hfl hp (fun _ => trivial)).any.kept) ?_
  rintro w g5 ⟨⟨rfl, ⟨sb', hf⟩, k6⟩, vf5⟩
  have n5 := vf5.n
  obtain ⟨fb', pb', hr5⟩ := hf.refx hp fun s hs => fillF_sec (flatF_int p2.d.fl) hfl (Nat.le_refl _) s
  simp -implicitDefEqProofs (disch := (first | omega | (simp -implicitDefEqProofs only [szs, ne_eq] <;> omega) | fail)) only [go_sem, Nat.reduceAdd, Nat.reduceSub, Nat.reduceMul, Nat.reduceLT, Nat.reduceMod, Nat.reduceDiv, Nat.reduceEqDiff, Nat.reduceBEq, Nat.reduceLeDiff, ↓reduceIte, reduceCtorEq, Int.reduceAdd, Int.reduceSub, Int.reduceLT, Int.reduceLE, Int.reduceBEq, Int.reduceEq, Int.reduceToNat]
  refine ⟨_, _, DS.ofB (flatF D.fl D.n) D.n, _, _, fb', pb', rfl, ⟨(hd5.old k5).old k6, hr5, fun b hb hs => ?_, fun b hb => ?_, fun b hb => ?_, fun b hb => hb.2⟩, fun s => by simp [DS.ofB]⟩
  · have := (hfx b hb).2; have h2 := hs.1; omega
  · have := (hfx b hb).1; exact .inr (by omega)
  · have h2 := hb.1; exact .inr (by omega)
end Go.Proofs.Ytgkcbpagdfdpdaa
