/- The document's pool: Put. -/
import Derived.Test.YtfgdpgagcnelpaaR2
set_option linter.unusedVariables false
set_option linter.unusedSimpArgs false
set_option linter.unusedSimpArgs false
set_option maxRecDepth 100000
set_option linter.unusedVariables false
set_option linter.unusedSimpArgs false
namespace Go.Proofs.Ytfgdpgagcnelpaa
open Go Go.Vm
/-- A frame's bytes are written. -/
theorem RPool.set_byt {h : Heap} {n0 rd : Nat} {L : RL} {S : PS} {bv : Nat → V} (hr : RPool h n0 rd L S bv) {i : Nat} (hi : i < S.n) (h0 : S.ho i ≠ 0) {b : Nat} {x : Bool} {c c' : Blk} (hbv : bv i = .slice (some (b, 0)) 256 256 x) (hb : h.get b = some (.cells c 5)) (hs : c'.size = 256) (hro : c'.ro = false) {S' : PS} (e1 : S'.n = S.n) (e2 : S'.na = S.na) (e3 : S'.ow = S.ow) (e4 : S'.ho = S.ho) (e5 : S'.qu = S.qu) (hoth : ∀ k j, k ≠ i → S'.byt k j = S.byt k j) (hg : ∀ j, j < 256 → c'.get j = .int .u8 (S'.byt i j)) :
    RPool (h.set b (.cells c' 5)) n0 rd L S' bv := by
  obtain ⟨b1, b2, b3, b4, b5⟩ := hr.blocks
  obtain ⟨cp, p1, p2⟩ := hr.p
  obtain ⟨f, f1, ⟨fs, fr, fo, fh, fv⟩⟩ := hr.f
  obtain ⟨q, q1, q2⟩ := hr.q
  have hbl := Heap.lt_of_get hb
  have n1 : rd ≠ b := fun e => by rw [e, hb] at p1; cases p1
  have n2 : L.fb ≠ b := fun e => by rw [e, hb] at f1; cases f1
  have n3 : L.qb ≠ b := fun e => by rw [e, hb] at q1; cases q1
  have hn0 : n0 ≤ b := by
    rcases hr.b i hi with ⟨_, h⟩ | ⟨g, ⟨b', x', c'', e, hb', _⟩, _⟩
    · exact absurd h h0
    · rw [hbv] at e; cases e; exact hb'
  refine ⟨⟨by rw [Heap.n_set]; exact hr.lt.1, hr.lt.2⟩, by rw [e1]; exact hr.pos, ⟨cp, by rw [w_set_ne hbl n1]; exact p1, by rw [e1, e2]; exact p2⟩, ⟨f, by rw [w_set_ne hbl n2]; exact f1, ⟨by rw [e1]; exact fs, fr, by rw [e1, e3]; exact fo, by rw [e1, e4]; exact fh, by rw [e1]; exact fv⟩⟩, ⟨q, by rw [w_set_ne hbl n3]; exact q1, by rw [e2, e5]; exact q2⟩, fun j hj => ?_, by rw [e1]; exact hr.dis⟩
  rw [e1] at hj
  rw [e4]
  by_cases e : j = i
  · subst e
    exact .inr ⟨S'.byt j, ⟨b, x, c', hbv, hn0, w_set_eq hbl rfl _, hs, hro, hg⟩, fun _ _ _ => rfl⟩
  · rcases hr.b j hj with h | ⟨g, ⟨b', x', cb, e', hb', hg', hs'⟩, h2⟩
    · exact .inl h
    · refine .inr ⟨g, ⟨b', x', cb, e', hb', ?_, hs'⟩, fun hne k hk => by rw [hoth j k e]; exact h2 hne k hk⟩
      rw [w_set_ne hbl ?_]
      · exact hg'
      · rintro rfl
        rcases hr.dis j i hj hi e with h | h | h
        · rw [e'] at h; cases h
        · rw [hbv] at h; cases h
        · rw [e', hbv] at h; exact h rfl
theorem BytesV.lenV {h : Heap} {R : Set'} {v : V} {m : Nat} {g : Nat → Int} (hv : BytesV h R v m g) (k : Heap) : lenV Try.prog 35 v k = some (m, []) := by
  rcases hv.at' with ⟨rfl, rfl | ⟨a, rfl⟩⟩ | ⟨b, o, cap, c, ce, rfl, _⟩ <;> simp [Vm.lenV, Try.underlying35]
theorem put_zero (S : PS) (i j : Nat) (g : Nat → Int) : S.put i j 0 g = S := by
  obtain ⟨n, na, ow, ho, byt, qu, us⟩ := S
  simp only [PS.put, PS.mk.injEq, true_and, and_true]
  funext x y
  rw [if_neg (by omega)]
set_option maxHeartbeats 2000000 in
theorem rput_at {h : Heap} {R W Rv : Set'} {n0 rd : Nat} {L : RL} {S : PS} {bv : Nat → V} (hr : RPool h n0 rd L S bv) (w : WF S) (hR : ∀ b, R b) {i j : Nat} (hW : ∀ b x, bv i = .slice (some (b, 0)) 256 256 x → W b) {v : V} {m : Nat} {g : Nat → Int} (hv : BytesV h Rv v m g) (hRv : ∀ b, Rv b → b < n0) (hi : i < S.n) (h0 : S.ho i ≠ 0) (hj : j < 256) (hjm : j + m ≤ 256) :
    SF Try.prog 50 [.ptr (some (rd, 0)), .int .i64 i, .int .i64 j, v] h R W fun v h' => v = .int .i64 0 ∧ RPool h' n0 rd L (S.put i j m g) bv := by
  obtain ⟨b1, b2, b3, b4, b5⟩ := hr.blocks
  obtain ⟨cp, p1, p2, p3, p4⟩ := hr.p
  obtain ⟨f, f1, ⟨fs, fr, fo, fh, fv⟩⟩ := hr.f
  have hlv := hv.lenV
  have hR1 := hR rd
  have hR2 := hR L.fb
  have hj0 : ¬ (j : Int) < 0 := by omega
  have hj1 : ¬ (j : Int) ≥ 256 := by omega
  have hm1 : ¬ (m : Int) > 256 - j := by omega
  have how : Owned S (i : Int) := ⟨by omega, by omega, h0⟩
  refine SF.go hm Try.func50 ir50_eq ?_
  simp -implicitDefEqProofs (disch := (first | omega | (simp -implicitDefEqProofs only [szs, ne_eq] <;> omega) | fail)) only [go_sem, Nat.reduceAdd, Nat.reduceSub, Nat.reduceMul, Nat.reduceLT, Nat.reduceMod, Nat.reduceDiv, Nat.reduceEqDiff, Nat.reduceBEq, Nat.reduceLeDiff, ↓reduceIte, reduceCtorEq, Int.reduceAdd, Int.reduceSub, Int.reduceLT, Int.reduceLE, Int.reduceBEq, Int.reduceEq, Int.reduceToNat, ir50, ↓hlv, hj0, hj1, hm1, undefV]
  refine GCall.of (rowned_ok hr w (fun b => .inr (hR b)) i) ?_
  rintro _ h1 ⟨rfl, rfl⟩
  rw [decide_eq_true how]
  simp -implicitDefEqProofs (disch := (first | omega | (simp -implicitDefEqProofs only [szs, ne_eq] <;> omega) | fail)) only [go_sem, Nat.reduceAdd, Nat.reduceSub, Nat.reduceMul, Nat.reduceLT, Nat.reduceMod, Nat.reduceDiv, Nat.reduceEqDiff, Nat.reduceBEq, Nat.reduceLeDiff, ↓reduceIte, reduceCtorEq, Int.reduceAdd, Int.reduceSub, Int.reduceLT, Int.reduceLE, Int.reduceBEq, Int.reduceEq, Int.reduceToNat]
  refine GLoop.inv hm (fun k f' gg => f'.mks = [] ∧ f'.tm.n = 51 ∧ f'.tm.get 0 = some (.ptr (some (rd, 0))) ∧ f'.tm.get 1 = some (.int .i64 i) ∧ f'.tm.get 2 = some (.int .i64 j) ∧ f'.tm.get 3 = some v ∧ (∀ b, b < n0 → gg.get b = h1.get b) ∧ ∃ p : Nat, p + k = m ∧ f'.tm.get 9 = some (.int .i64 p) ∧ RPool gg n0 rd L (S.put i j p g) bv) m ?_ ?_
  · exact ⟨rfl, rfl, by simp -implicitDefEqProofs (disch := (first | omega | (simp -implicitDefEqProofs only [szs, ne_eq] <;> omega) | fail)) only [go_sem, Nat.reduceAdd, Nat.reduceSub, Nat.reduceMul, Nat.reduceLT, Nat.reduceMod, Nat.reduceDiv, Nat.reduceEqDiff, Nat.reduceBEq, Nat.reduceLeDiff, ↓reduceIte, reduceCtorEq, Int.reduceAdd, Int.reduceSub, Int.reduceLT, Int.reduceLE, Int.reduceBEq, Int.reduceEq, Int.reduceToNat], by simp -implicitDefEqProofs (disch := (first | omega | (simp -implicitDefEqProofs only [szs, ne_eq] <;> omega) | fail)) only [go_sem, Nat.reduceAdd, Nat.reduceSub, Nat.reduceMul, Nat.reduceLT, Nat.reduceMod, Nat.reduceDiv, Nat.reduceEqDiff, Nat.reduceBEq, Nat.reduceLeDiff, ↓reduceIte, reduceCtorEq, Int.reduceAdd, Int.reduceSub, Int.reduceLT, Int.reduceLE, Int.reduceBEq, Int.reduceEq, Int.reduceToNat], by simp -implicitDefEqProofs (disch := (first | omega | (simp -implicitDefEqProofs only [szs, ne_eq] <;> omega) | fail)) only [go_sem, Nat.reduceAdd, Nat.reduceSub, Nat.reduceMul, Nat.reduceLT, Nat.reduceMod, Nat.reduceDiv, Nat.reduceEqDiff, Nat.reduceBEq, Nat.reduceLeDiff, ↓reduceIte, reduceCtorEq, Int.reduceAdd, Int.reduceSub, Int.reduceLT, Int.reduceLE, Int.reduceBEq, Int.reduceEq, Int.reduceToNat], by simp -implicitDefEqProofs (disch := (first | omega | (simp -implicitDefEqProofs only [szs, ne_eq] <;> omega) | fail)) only [go_sem, Nat.reduceAdd, Nat.reduceSub, Nat.reduceMul, Nat.reduceLT, Nat.reduceMod, Nat.reduceDiv, Nat.reduceEqDiff, Nat.reduceBEq, Nat.reduceLeDiff, ↓reduceIte, reduceCtorEq, Int.reduceAdd, Int.reduceSub, Int.reduceLT, Int.reduceLE, Int.reduceBEq, Int.reduceEq, Int.reduceToNat], fun _ _ => rfl, 0, by omega, by simp -implicitDefEqProofs (disch := (first | omega | (simp -implicitDefEqProofs only [szs, ne_eq] <;> omega) | fail)) only [go_sem, Nat.reduceAdd, Nat.reduceSub, Nat.reduceMul, Nat.reduceLT, Nat.reduceMod, Nat.reduceDiv, Nat.reduceEqDiff, Nat.reduceBEq, Nat.reduceLeDiff, ↓reduceIte, reduceCtorEq, Int.reduceAdd, Int.reduceSub, Int.reduceLT, Int.reduceLE, Int.reduceBEq, Int.reduceEq, Int.reduceToNat]; rfl, by rw [put_zero]; exact hr⟩
  clear p1 p2 p3 p4 f1 fs fr fo fh fv b1 b2 b3 b4 b5 cp f
  rintro k ⟨⟨n', tr⟩, mks⟩ gg ⟨hmk, hn', t0, t1, t2, t3, hold, p, hpk, t9, hrg⟩
  simp only [Tm.get_mk] at hmk hn' t0 t1 t2 t3 t9
  subst hmk hn'
  by_cases hp : p < m
  · obtain ⟨b1, b2, b3, b4, b5⟩ := hrg.blocks
    obtain ⟨cp, p1, p2, p3, p4⟩ := hrg.p
    obtain ⟨f, f1, ⟨fs, fr, fo, fh, fv⟩⟩ := hrg.f
    have hi' : i < (S.put i j p g).n := hi
    have h0' : (S.put i j p g).ho i ≠ 0 := h0
    rcases hrg.b i hi' with ⟨_, h⟩ | ⟨g', ⟨b, x, cb, hbv, hb0, hb, hbs, hbr, hbg⟩, hg'⟩
    · exact absurd h h0'
    have hfv := fv i hi'
    rw [hbv] at hfv
    rcases hv.at' with ⟨hm0, _⟩ | ⟨bs, os, caps, cs, ces, rfl, hRs, hbs', hss, hcs⟩
    · omega
    have hbs1 := (hold bs (hRv bs hRs)).trans hbs'
    have hcp := hcs p hp
    have hRb := hR b
    have hRbs := hR bs
    have hWb := hW b x hbv
    have hs3 : i * 3 + 2 < f.size := by rw [fs]; have : (S.put i j p g).n = S.n := rfl; omega
    have hsn : (i : Int) < ((S.put i j p g).n : Nat) := by have : (S.put i j p g).n = S.n := rfl; omega
    have hi0 : (0 : Int) ≤ (i : Int) := by omega
    have hp0 : (0 : Int) ≤ (p : Int) := by omega
    have hpm : (p : Int) < (m : Nat) := by omega
    have hjp0 : (0 : Int) ≤ (j : Int) + p := by omega
    have hjp : (j : Int) + p < ((256 : Nat) : Int) := by omega
    have hcs' : os + p < cs.size := by omega
    have hcb : j + p < cb.size := by omega
    have hjpn : ((j : Int) + p).toNat = j + p := by omega
    simp -implicitDefEqProofs (disch := (first | omega | (simp -implicitDefEqProofs only [szs, ne_eq] <;> omega) | fail)) only [go_sem, Nat.reduceAdd, Nat.reduceSub, Nat.reduceMul, Nat.reduceLT, Nat.reduceMod, Nat.reduceDiv, Nat.reduceEqDiff, Nat.reduceBEq, Nat.reduceLeDiff, ↓reduceIte, reduceCtorEq, Int.reduceAdd, Int.reduceSub, Int.reduceLT, Int.reduceLE, Int.reduceBEq, Int.reduceEq, Int.reduceToNat, ir50_l0, t0, t1, t2, t3, t9, ↓hlv, p1, p2, p3, hR1, hR2, f1, hfv, hs3, hsn, hi0, hp0, hpm, hjp0, hjp, hbs1, hcp, hcs', hRb, hRbs, hWb, hb, hbr, hcb, hjpn]
    have hbl := Heap.lt_of_get hb
    refine ⟨k - 1, by omega, fun b' hb' => by rw [w_set_ne hbl (by omega)]; exact hold b' hb', p + 1, by omega, by simp, ?_⟩
    refine hrg.set_byt (S' := S.put i j (p + 1) g) hi' h0' hbv hb (by rw [Blk.size_set]; exact hbs) (by rw [Blk.ro_set]; exact hbr) rfl rfl rfl rfl rfl (fun x y hx => ?_) (fun y hy => ?_)
    · simp only [PS.put]
      rw [if_neg (fun h => hx h.1), if_neg (fun h => hx h.1)]
    · by_cases e : y = j + p
      · subst e
        rw [w_bset_eq rfl]
        simp only [PS.put]
        rw [if_pos ⟨trivial, by omega, by omega⟩, show j + p - j = p by omega]
      · rw [w_bset_ne e, hbg y hy, hg' h0' y hy]
        simp only [PS.put]
        by_cases e2 : j ≤ y ∧ y < j + p
        · rw [if_pos ⟨trivial, e2⟩, if_pos ⟨trivial, by omega⟩]
        · rw [if_neg (fun h => e2 h.2), if_neg (fun h => e2 ⟨h.2.1, by have := h.2.2; omega⟩)]
  · obtain rfl : p = m := by omega
    simp -implicitDefEqProofs (disch := (first | omega | (simp -implicitDefEqProofs only [szs, ne_eq] <;> omega) | fail)) only [go_sem, Nat.reduceAdd, Nat.reduceSub, Nat.reduceMul, Nat.reduceLT, Nat.reduceMod, Nat.reduceDiv, Nat.reduceEqDiff, Nat.reduceBEq, Nat.reduceLeDiff, ↓reduceIte, reduceCtorEq, Int.reduceAdd, Int.reduceSub, Int.reduceLT, Int.reduceLE, Int.reduceBEq, Int.reduceEq, Int.reduceToNat, ir50_l0, t0, t1, t2, t3, t9, ↓hlv]
    exact hrg
end Go.Proofs.Ytfgdpgagcnelpaa
