/- The document's pool: Copy, Drops. -/
import Derived.Test.YtfgdpgagcnelpaaR5
set_option linter.unusedVariables false
set_option linter.unusedSimpArgs false
set_option linter.unusedSimpArgs false
set_option maxRecDepth 100000
set_option linter.unusedVariables false
set_option linter.unusedSimpArgs false
namespace Go.Vm
theorem append_nilS {e sz bytes : Nat} {h : Heap} {b o m cap : Nat} {ex : Bool} {ce : TypeId} {c : Blk} (hb : h.get b = some (.cells c ce)) (hsz : o + m * sz ≤ c.size) (h0 : 0 < m) (hB : m * bytes ≤ 140737488355328) (hbig : m ≤ 9223372036854775807) :
    appE e sz bytes (.slice none 0 0 true) (.slice (some (b, o)) m cap ex) h = some ⟨.slice (some (h.n, 0)) m m false, h.push (.cells (Blk.of (c.gets o (m * sz))) e), [b], []⟩ := by
  unfold appE
  simp only [lenOfV, firstV, hb, Nat.zero_add, Nat.zero_mul, w_ble_t hsz, Blk.length_gets, w_beq_t (rfl : m * sz = m * sz), w_ble_f h0, List.length_nil, w_beq_t (rfl : 0 = 0), w_ble_t hB, w_ble_t hbig]
  rfl
theorem append_wholeS {e sz bytes : Nat} {h : Heap} {eb b o m cap : Nat} {ex : Bool} {te ce : TypeId} {c : Blk} (he : h.get eb = some (.cells (Blk.of []) te)) (hb : h.get b = some (.cells c ce)) (hsz : o + m * sz ≤ c.size) (h0 : 0 < m) (hB : m * bytes ≤ 140737488355328) (hbig : m ≤ 9223372036854775807) :
    appE e sz bytes (.slice (some (eb, 0)) 0 0 true) (.slice (some (b, o)) m cap ex) h = some ⟨.slice (some (h.n, 0)) m m false, h.push (.cells (Blk.of (c.gets o (m * sz))) e), [b] ++ [eb], []⟩ := by
  unfold appE
  simp only [lenOfV, firstV, hb, he, Nat.zero_add, Nat.zero_mul, w_ble_t hsz, Blk.length_gets, w_beq_t (rfl : m * sz = m * sz), w_ble_f h0, w_of_size, List.length_nil, w_ble_t (Nat.le_refl 0), w_gets_zero, w_beq_t (rfl : 0 = 0), w_ble_t hB, w_ble_t hbig]
  rfl
theorem of_gets_get {c : Blk} {o n j : Nat} (hj : j < n) : (Blk.of (c.gets o n)).get j = c.get (o + j) := by
  rw [Blk.get_of _ _ (by rw [Blk.length_gets]; omega), List.getD_eq_getElem?_getD, Blk.gets_get _ _ _ _ hj, Option.getD_some]
end Go.Vm
namespace Go.Proofs.Ytfgdpgagcnelpaa
open Go Go.Vm
theorem RPool.congr {h : Heap} {n0 rd : Nat} {L : RL} {S S' : PS} {bv : Nat → V} (hr : RPool h n0 rd L S bv) (e1 : S'.n = S.n) (e2 : S'.na = S.na) (e3 : ∀ i, i < S.n → S'.ow i = S.ow i) (e4 : ∀ i, i < S.n → S'.ho i = S.ho i) (e5 : ∀ i, i < S.na → S'.qu i = S.qu i) (e6 : ∀ i, i < S.n → S.ho i ≠ 0 → ∀ j, j < 256 → S'.byt i j = S.byt i j) : RPool h n0 rd L S' bv := by
  obtain ⟨lt, pos, ⟨c, p1, p2⟩, ⟨f, f1, ⟨fs, fr, fo, fh, fv⟩⟩, ⟨q, q1, ⟨qs, qr, qg⟩⟩, hb, dis⟩ := hr
  refine ⟨lt, by rw [e1]; exact pos, ⟨c, p1, by rw [e1, e2]; exact p2⟩, ⟨f, f1, ⟨by rw [e1]; exact fs, fr, fun i hi => ?_, fun i hi => ?_, by rw [e1]; exact fv⟩⟩, ⟨q, q1, ⟨by rw [e2]; exact qs, qr, fun i hi => ?_⟩⟩, fun i hi => ?_, by rw [e1]; exact dis⟩
  · rw [e1] at hi; rw [e3 i hi]; exact fo i hi
  · rw [e1] at hi; rw [e4 i hi]; exact fh i hi
  · rw [e2] at hi; rw [e5 i hi]; exact qg i hi
  · rw [e1] at hi
    rw [e4 i hi]
    rcases hb i hi with h | ⟨g, h1, h2⟩
    · exact .inl h
    · exact .inr ⟨g, h1, fun h0 j hj => by rw [e6 i hi h0 j hj]; exact h2 h0 j hj⟩
/-- A frame gets bytes of its own anew. -/
theorem RPool.new_byt {h h' : Heap} {n0 rd : Nat} {L : RL} {S S' : PS} {bv : Nat → V} (hr : RPool h n0 rd L S bv) {i : Nat} (hi : i < S.n) (hn : h.n ≤ h'.n) {nb : Nat} {x : Bool} {c f F : Blk} (hnb : h.n ≤ nb) (hc : h'.get nb = some (.cells c 5)) (hs : c.size = 256) (hro : c.ro = false) (hf : h.get L.fb = some (.cells f 83)) (hF : h'.get L.fb = some (.cells F 83)) (eF : F = f.set (i * 3 + 2) (.slice (some (nb, 0)) 256 256 x)) (hk : ∀ b, b < h.n → b ≠ L.fb → h'.get b = h.get b) (e1 : S'.n = S.n) (e2 : S'.na = S.na) (e3 : S'.ow = S.ow) (e4 : S'.ho = S.ho) (e5 : S'.qu = S.qu) (hoth : ∀ k j, k ≠ i → S'.byt k j = S.byt k j) (hg : ∀ j, j < 256 → c.get j = .int .u8 (S'.byt i j)) :
    RPool h' n0 rd L S' (fun j => if j = i then .slice (some (nb, 0)) 256 256 x else bv j) := by
  obtain ⟨b1, b2, b3, b4, b5⟩ := hr.blocks
  have hlt := hr.lt
  obtain ⟨cp, p1, p2⟩ := hr.p
  obtain ⟨f', f1, ⟨fs, fr, fo, fh, fv⟩⟩ := hr.f
  obtain ⟨q, q1, q2⟩ := hr.q
  rw [hf] at f1
  cases f1
  have hs' : ∀ j, j ≠ i * 3 + 2 → F.get j = f.get j := fun j hj => by rw [eF]; exact w_bset_ne hj _
  refine ⟨⟨by omega, hr.lt.2⟩, by rw [e1]; exact hr.pos, ⟨cp, by rw [hk _ b1 b4]; exact p1, by rw [e1, e2]; exact p2⟩, ⟨F, hF, ⟨by rw [eF, Blk.size_set, e1]; exact fs, by rw [eF, Blk.ro_set]; exact fr, fun j hj => ?_, fun j hj => ?_, fun j hj => ?_⟩⟩, ⟨q, by rw [hk _ b3 b5]; exact q1, by rw [e2, e5]; exact q2⟩, fun j hj => ?_, fun j k hj hk' hne => ?_⟩
  · rw [e1] at hj; rw [hs' _ (by omega), e3]; exact fo j hj
  · rw [e1] at hj; rw [hs' _ (by omega), e4]; exact fh j hj
  · rw [e1] at hj
    by_cases e : j = i
    · subst e; rw [eF, w_bset_eq rfl]; simp
    · rw [hs' _ (by omega), fv j hj]; simp [e]
  · rw [e1] at hj
    by_cases e : j = i
    · subst e
      refine .inr ⟨S'.byt j, ⟨nb, x, c, by simp, by omega, hc, hs, hro, hg⟩, fun _ _ _ => rfl⟩
    · simp only [if_neg e]
      rw [e4]
      rcases hr.b j hj with h | ⟨g, ⟨b, x', cb, e1', e2', e3', e4'⟩, h2⟩
      · exact .inl h
      · refine .inr ⟨g, ⟨b, x', cb, e1', e2', ?_, e4'⟩, fun h0 k hk' => by rw [hoth j k e]; exact h2 h0 k hk'⟩
        rw [hk b (Heap.lt_of_get e3') (fun e' => by rw [e', hf] at e3'; cases e3')]; exact e3'
  · rw [e1] at hj hk'
    have hlow : ∀ j, j < S.n → bv j = nilV ∨ sblk (bv j) ≠ nb := fun j hj => by
      rcases hr.b j hj with ⟨h1, _⟩ | ⟨g, ⟨b, x', cb, e1', e2', e3', _⟩, _⟩
      · exact .inl h1
      · have := Heap.lt_of_get e3'
        exact .inr (by rw [e1']; show b ≠ nb; omega)
    by_cases ej : j = i
    · have ek : k ≠ i := fun h => hne (by omega)
      simp only [if_pos ej, if_neg ek]
      rcases hlow k hk' with h | h
      · exact .inr (.inl h)
      · exact .inr (.inr (Ne.symm h))
    · by_cases ek : k = i
      · simp only [if_neg ej, if_pos ek]
        rcases hlow j hj with h | h
        · exact .inl h
        · exact .inr (.inr h)
      · simp only [if_neg ej, if_neg ek]
        exact hr.dis j k hj hk' hne
def PS.cpy (S : PS) (i j : Nat) : PS := { S with byt := fun x y => if x = j then S.byt i y else S.byt x y }
theorem WF.cpy {S : PS} (w : WF S) (i j : Nat) : WF (S.cpy i j) := ⟨w.ho, w.ow, w.us, w.le, w.qu, w.sum, w.n⟩
set_option maxHeartbeats 1000000 in
theorem rcopy_no {h : Heap} {R W : Set'} {n0 rd : Nat} {L : RL} {S : PS} {bv : Nat → V} (hr : RPool h n0 rd L S bv) (w : WF S) (hR : ∀ b, R b) (k l : Int) (ho : ¬ (Owned S k ∧ Owned S l)) :
    SF Try.prog 53 [.ptr (some (rd, 0)), .int .i64 k, .int .i64 l] h R W fun v h' => v = .int .i64 6 ∧ h' = h := by
  refine SF.go hm Try.func53 ir53_eq ?_
  simp -implicitDefEqProofs (disch := (first | omega | (simp -implicitDefEqProofs only [szs, ne_eq] <;> omega) | fail)) only [go_sem, Nat.reduceAdd, Nat.reduceSub, Nat.reduceMul, Nat.reduceLT, Nat.reduceMod, Nat.reduceDiv, Nat.reduceEqDiff, Nat.reduceBEq, Nat.reduceLeDiff, ↓reduceIte, reduceCtorEq, Int.reduceAdd, Int.reduceSub, Int.reduceLT, Int.reduceLE, Int.reduceBEq, Int.reduceEq, Int.reduceToNat, ir53]
  refine GCall.of (rowned_ok hr w (fun b => .inr (hR b)) k) ?_
  rintro v h1 ⟨rfl, rfl⟩
  by_cases h0 : Owned S k
  · have h2 : ¬ Owned S l := fun h => ho ⟨h0, h⟩
    rw [decide_eq_true h0]
    simp -implicitDefEqProofs (disch := (first | omega | (simp -implicitDefEqProofs only [szs, ne_eq] <;> omega) | fail)) only [go_sem, Nat.reduceAdd, Nat.reduceSub, Nat.reduceMul, Nat.reduceLT, Nat.reduceMod, Nat.reduceDiv, Nat.reduceEqDiff, Nat.reduceBEq, Nat.reduceLeDiff, ↓reduceIte, reduceCtorEq, Int.reduceAdd, Int.reduceSub, Int.reduceLT, Int.reduceLE, Int.reduceBEq, Int.reduceEq, Int.reduceToNat, undefV]
    refine GCall.of (rowned_ok hr w (fun b => .inr (hR b)) l) ?_
    rintro v h1 ⟨rfl, rfl⟩
    rw [decide_eq_false h2]
    simp -implicitDefEqProofs (disch := (first | omega | (simp -implicitDefEqProofs only [szs, ne_eq] <;> omega) | fail)) only [go_sem, Nat.reduceAdd, Nat.reduceSub, Nat.reduceMul, Nat.reduceLT, Nat.reduceMod, Nat.reduceDiv, Nat.reduceEqDiff, Nat.reduceBEq, Nat.reduceLeDiff, ↓reduceIte, reduceCtorEq, Int.reduceAdd, Int.reduceSub, Int.reduceLT, Int.reduceLE, Int.reduceBEq, Int.reduceEq, Int.reduceToNat, undefV]
  · rw [decide_eq_false h0]
    simp -implicitDefEqProofs (disch := (first | omega | (simp -implicitDefEqProofs only [szs, ne_eq] <;> omega) | fail)) only [go_sem, Nat.reduceAdd, Nat.reduceSub, Nat.reduceMul, Nat.reduceLT, Nat.reduceMod, Nat.reduceDiv, Nat.reduceEqDiff, Nat.reduceBEq, Nat.reduceLeDiff, ↓reduceIte, reduceCtorEq, Int.reduceAdd, Int.reduceSub, Int.reduceLT, Int.reduceLE, Int.reduceBEq, Int.reduceEq, Int.reduceToNat, undefV]
set_option maxHeartbeats 1000000 in
theorem rcopy_at {h : Heap} {R W : Set'} {n0 rd : Nat} {L : RL} {S : PS} {bv : Nat → V} (hr : RPool h n0 rd L S bv) (w : WF S) (hR : ∀ b, R b) (hW : ∀ b, n0 ≤ b → W b) {i j : Nat} (hi : i < S.n) (hj : j < S.n) (hi0 : S.ho i ≠ 0) (hj0 : S.ho j ≠ 0) :
    SF Try.prog 53 [.ptr (some (rd, 0)), .int .i64 i, .int .i64 j] h R W fun v h' => v = .int .i64 0 ∧ ∃ bv', RPool h' n0 rd L (S.cpy i j) bv' := by
  obtain ⟨b1, b2, b3, b4, b5⟩ := hr.blocks
  obtain ⟨cp, p1, p2, p3, p4⟩ := hr.p
  obtain ⟨f, f1, ⟨fs, fr, fo, fh, fv⟩⟩ := hr.f
  have ho1 : Owned S (i : Int) := ⟨by omega, by omega, hi0⟩
  have ho2 : Owned S (j : Int) := ⟨by omega, by omega, hj0⟩
  have hR1 := hR rd
  have hR2 := hR L.fb
  have hW2 := hW L.fb hr.lt.2.2.1
  rcases hr.b i hi with ⟨_, h4⟩ | ⟨g, ⟨b, x, cb, hbv, hb0, hb, hbs, hbr, hbg⟩, hg⟩
  · exact absurd h4 hi0
  have hvi := fv i hi
  rw [hbv] at hvi
  have hsi : i * 3 + 2 < f.size := by omega
  have hsj : j * 3 + 2 < f.size := by omega
  have i0 : (0 : Int) ≤ (i : Int) := by omega
  have i1 : (i : Int) < (S.n : Nat) := by omega
  have j0 : (0 : Int) ≤ (j : Int) := by omega
  have j1 : (j : Int) < (S.n : Nat) := by omega
  have hRb := hR b
  refine SF.go hm Try.func53 ir53_eq ?_
  simp -implicitDefEqProofs (disch := (first | omega | (simp -implicitDefEqProofs only [szs, ne_eq] <;> omega) | fail)) only [go_sem, Nat.reduceAdd, Nat.reduceSub, Nat.reduceMul, Nat.reduceLT, Nat.reduceMod, Nat.reduceDiv, Nat.reduceEqDiff, Nat.reduceBEq, Nat.reduceLeDiff, ↓reduceIte, reduceCtorEq, Int.reduceAdd, Int.reduceSub, Int.reduceLT, Int.reduceLE, Int.reduceBEq, Int.reduceEq, Int.reduceToNat, ir53]
  refine GCall.of (rowned_ok hr w (fun b => .inr (hR b)) i) ?_
  rintro v h1 ⟨rfl, rfl⟩
  rw [decide_eq_true ho1]
  simp -implicitDefEqProofs (disch := (first | omega | (simp -implicitDefEqProofs only [szs, ne_eq] <;> omega) | fail)) only [go_sem, Nat.reduceAdd, Nat.reduceSub, Nat.reduceMul, Nat.reduceLT, Nat.reduceMod, Nat.reduceDiv, Nat.reduceEqDiff, Nat.reduceBEq, Nat.reduceLeDiff, ↓reduceIte, reduceCtorEq, Int.reduceAdd, Int.reduceSub, Int.reduceLT, Int.reduceLE, Int.reduceBEq, Int.reduceEq, Int.reduceToNat, undefV]
  refine GCall.of (rowned_ok hr w (fun b => .inr (hR b)) j) ?_
  rintro v h1 ⟨rfl, rfl⟩
  rw [decide_eq_true ho2]
  have hA := append_nilS (e := 5) (sz := 1) (bytes := 1) (cap := 256) (ex := x) (h := h1) (o := 0) (m := 256) hb (by omega) (by omega) (by omega) (by omega)
  obtain ⟨B, eB⟩ : ∃ B, B = Blk.of (cb.gets 0 (256 * 1)) := ⟨_, rfl⟩
  rw [← eB] at hA
  have sB : B.size = 256 := by rw [eB, w_of_size, Blk.length_gets]
  have rB : B.ro = false := by rw [eB]; rfl
  have gB : ∀ y, y < 256 → B.get y = cb.get y := fun y hy => by rw [eB, of_gets_get (by omega), Nat.zero_add]
  simp -implicitDefEqProofs (disch := (first | omega | (simp -implicitDefEqProofs only [szs, ne_eq] <;> omega) | fail)) only [go_sem, Nat.reduceAdd, Nat.reduceSub, Nat.reduceMul, Nat.reduceLT, Nat.reduceMod, Nat.reduceDiv, Nat.reduceEqDiff, Nat.reduceBEq, Nat.reduceLeDiff, ↓reduceIte, reduceCtorEq, Int.reduceAdd, Int.reduceSub, Int.reduceLT, Int.reduceLE, Int.reduceBEq, Int.reduceEq, Int.reduceToNat, undefV, p1, p2, p3, hR1, hR2, f1, hvi, hsi, hsj, i0, i1, j0, j1, fr, appendV_of ap_35, ↓hA, hRb, hW2]
  have hlb : L.fb < (h1.push (.cells B 5)).n := by simp; omega
  have hlb2 : h1.n < (h1.push (.cells B 5)).n := by simp
  refine ⟨?_, _, hr.new_byt (S' := S.cpy i j) hj (by simp) (Nat.le_refl _) (by rw [w_set_ne hlb (by omega), w_push_eq rfl]) sB rB f1 (w_set_eq hlb rfl _) rfl (fun b' hb' hne => by rw [w_set_ne hlb hne, w_push_ne (by omega)]) rfl rfl rfl rfl rfl (fun y z hy => by simp [PS.cpy, hy]) (fun y hy => ?_)⟩
  · simp only [List.not_mem_nil, or_false, false_or, and_false, false_and, false_implies, implies_true, not_false_eq_true, List.mem_singleton, List.mem_cons, and_true, true_and]
    all_goals (try and_intros)
    all_goals (intros; omega)
  · rw [gB y hy, hbg y hy, hg hi0 y hy]
    simp [PS.cpy]
/-- The first p frames of an account go free. -/
def PS.dropTo (S : PS) (a p : Nat) : PS := { S with ho := fun x => if x < p ∧ S.ow x = (a : Nat) then 0 else S.ho x }
def PS.drops (S : PS) (a : Nat) : PS := { S.dropTo a S.n with us := fun b => if b = a then 0 else S.us b }
theorem WF.drops {S : PS} (w : WF S) {a : Nat} (ha : a < S.na) : WF (S.drops a) := by
  refine ⟨fun j hj => ?_, fun j hj hh => ?_, fun b hb => ?_, fun b hb => ?_, w.qu, w.sum, w.n⟩
  · have hj : j < S.n := hj
    have := w.ho j hj
    simp only [PS.drops, PS.dropTo]; split <;> omega
  · have hj : j < S.n := hj
    simp only [PS.drops, PS.dropTo] at hh ⊢
    refine w.ow j hj fun h => hh ?_
    rw [h]; simp
  · show (if b = a then 0 else S.us b) = cnt (fun i => decide ((if i < S.n ∧ S.ow i = (a : Nat) then (0 : Int) else S.ho i) ≠ 0 ∧ S.ow i = (b : Nat))) S.n
    by_cases e : b = a
    · subst e
      rw [if_pos rfl]
      have : ∀ n, n ≤ S.n → cnt (fun i => decide ((if i < S.n ∧ S.ow i = (b : Nat) then (0 : Int) else S.ho i) ≠ 0 ∧ S.ow i = (b : Nat))) n = 0 := fun n => by
        induction n with
        | zero => intro _; rfl
        | succ k ih =>
          intro hk
          simp only [cnt, ih (by omega)]
          by_cases h : S.ow k = (b : Nat)
          · simp [h, show k < S.n by omega]
          · simp [h]
      exact (this S.n (Nat.le_refl _)).symm
    · rw [if_neg e, w.us b hb]
      refine cnt_congr fun j hj => ?_
      by_cases h : S.ow j = (a : Nat)
      · have : ¬ ((a : Int) = (b : Int)) := by omega
        simp [h, this]
      · simp [h]
  · show (if b = a then 0 else S.us b) ≤ S.qu b
    have h1 := w.le b hb
    split
    · rw [w.us b hb] at h1
      have := (cnt_in (fun i => decide (S.ho i ≠ 0 ∧ S.ow i = (b : Nat))) S.n).1
      omega
    · exact h1
set_option maxHeartbeats 1000000 in
theorem rdrops_bad {h : Heap} {R W : Set'} {n0 rd : Nat} {L : RL} {S : PS} {bv : Nat → V} (hr : RPool h n0 rd L S bv) (hR : ∀ b, R b) (k : Int) (hk : ¬ (0 ≤ k ∧ k < S.na)) :
    SF Try.prog 48 [.ptr (some (rd, 0)), .int .i64 k] h R W fun v h' => v = .tuple [.int .i64 0, .int .i64 2] ∧ h' = h := by
  refine SF.go hm Try.func48 ir48_eq ?_
  simp -implicitDefEqProofs (disch := (first | omega | (simp -implicitDefEqProofs only [szs, ne_eq] <;> omega) | fail)) only [go_sem, Nat.reduceAdd, Nat.reduceSub, Nat.reduceMul, Nat.reduceLT, Nat.reduceMod, Nat.reduceDiv, Nat.reduceEqDiff, Nat.reduceBEq, Nat.reduceLeDiff, ↓reduceIte, reduceCtorEq, Int.reduceAdd, Int.reduceSub, Int.reduceLT, Int.reduceLE, Int.reduceBEq, Int.reduceEq, Int.reduceToNat, ir48]
  refine GCall.of (racc_ok hr (fun b => .inr (hR b)) k) ?_
  rintro v h1 ⟨rfl, rfl⟩
  rw [decide_eq_false hk]
  simp -implicitDefEqProofs (disch := (first | omega | (simp -implicitDefEqProofs only [szs, ne_eq] <;> omega) | fail)) only [go_sem, Nat.reduceAdd, Nat.reduceSub, Nat.reduceMul, Nat.reduceLT, Nat.reduceMod, Nat.reduceDiv, Nat.reduceEqDiff, Nat.reduceBEq, Nat.reduceLeDiff, ↓reduceIte, reduceCtorEq, Int.reduceAdd, Int.reduceSub, Int.reduceLT, Int.reduceLE, Int.reduceBEq, Int.reduceEq, Int.reduceToNat]
set_option maxHeartbeats 2000000 in
theorem rdrops_ok {h : Heap} {R W : Set'} {n0 rd : Nat} {L : RL} {S : PS} {bv : Nat → V} (hr : RPool h n0 rd L S bv) (w : WF S) (hR : ∀ b, R b) (hW : ∀ b, n0 ≤ b → W b) {a : Nat} (ha : a < S.na) :
    SF Try.prog 48 [.ptr (some (rd, 0)), .int .i64 a] h R W fun v h' => v = .tuple [.int .i64 (S.us a), .int .i64 0] ∧ RPool h' n0 rd L (S.drops a) bv := by
  have hk : 0 ≤ (a : Int) ∧ (a : Int) < S.na := by omega
  have hn := w.n
  have hlt := hr.lt
  refine SF.go hm Try.func48 ir48_eq ?_
  simp -implicitDefEqProofs (disch := (first | omega | (simp -implicitDefEqProofs only [szs, ne_eq] <;> omega) | fail)) only [go_sem, Nat.reduceAdd, Nat.reduceSub, Nat.reduceMul, Nat.reduceLT, Nat.reduceMod, Nat.reduceDiv, Nat.reduceEqDiff, Nat.reduceBEq, Nat.reduceLeDiff, ↓reduceIte, reduceCtorEq, Int.reduceAdd, Int.reduceSub, Int.reduceLT, Int.reduceLE, Int.reduceBEq, Int.reduceEq, Int.reduceToNat, ir48]
  refine GCall.of (racc_ok hr (fun b => .inr (hR b)) a) ?_
  rintro v h1 ⟨rfl, rfl⟩
  rw [decide_eq_true hk]
  simp -implicitDefEqProofs (disch := (first | omega | (simp -implicitDefEqProofs only [szs, ne_eq] <;> omega) | fail)) only [go_sem, Nat.reduceAdd, Nat.reduceSub, Nat.reduceMul, Nat.reduceLT, Nat.reduceMod, Nat.reduceDiv, Nat.reduceEqDiff, Nat.reduceBEq, Nat.reduceLeDiff, ↓reduceIte, reduceCtorEq, Int.reduceAdd, Int.reduceSub, Int.reduceLT, Int.reduceLE, Int.reduceBEq, Int.reduceEq, Int.reduceToNat]
  refine GCall.of (rused_ok hr w (fun b => .inr (hR b)) a) ?_
  rintro v h1 ⟨rfl, rfl⟩
  rw [if_pos hk]
  simp only [Int.toNat_natCast]
  simp -implicitDefEqProofs (disch := (first | omega | (simp -implicitDefEqProofs only [szs, ne_eq] <;> omega) | fail)) only [go_sem, Nat.reduceAdd, Nat.reduceSub, Nat.reduceMul, Nat.reduceLT, Nat.reduceMod, Nat.reduceDiv, Nat.reduceEqDiff, Nat.reduceBEq, Nat.reduceLeDiff, ↓reduceIte, reduceCtorEq, Int.reduceAdd, Int.reduceSub, Int.reduceLT, Int.reduceLE, Int.reduceBEq, Int.reduceEq, Int.reduceToNat]
  refine GLoop.inv hm (fun k f gg => f.mks = [] ∧ f.tm.n = 44 ∧ f.tm.get 0 = some (.ptr (some (rd, 0))) ∧ f.tm.get 1 = some (.int .i64 a) ∧ f.tm.get 6 = some (.int .i64 (S.us a)) ∧ ∃ p : Nat, p + k = S.n ∧ f.tm.get 7 = some (.int .i64 p) ∧ RPool gg n0 rd L (S.dropTo a p) bv) S.n ?_ ?_
  · exact ⟨rfl, rfl, by simp -implicitDefEqProofs (disch := (first | omega | (simp -implicitDefEqProofs only [szs, ne_eq] <;> omega) | fail)) only [go_sem, Nat.reduceAdd, Nat.reduceSub, Nat.reduceMul, Nat.reduceLT, Nat.reduceMod, Nat.reduceDiv, Nat.reduceEqDiff, Nat.reduceBEq, Nat.reduceLeDiff, ↓reduceIte, reduceCtorEq, Int.reduceAdd, Int.reduceSub, Int.reduceLT, Int.reduceLE, Int.reduceBEq, Int.reduceEq, Int.reduceToNat], by simp -implicitDefEqProofs (disch := (first | omega | (simp -implicitDefEqProofs only [szs, ne_eq] <;> omega) | fail)) only [go_sem, Nat.reduceAdd, Nat.reduceSub, Nat.reduceMul, Nat.reduceLT, Nat.reduceMod, Nat.reduceDiv, Nat.reduceEqDiff, Nat.reduceBEq, Nat.reduceLeDiff, ↓reduceIte, reduceCtorEq, Int.reduceAdd, Int.reduceSub, Int.reduceLT, Int.reduceLE, Int.reduceBEq, Int.reduceEq, Int.reduceToNat], by simp -implicitDefEqProofs (disch := (first | omega | (simp -implicitDefEqProofs only [szs, ne_eq] <;> omega) | fail)) only [go_sem, Nat.reduceAdd, Nat.reduceSub, Nat.reduceMul, Nat.reduceLT, Nat.reduceMod, Nat.reduceDiv, Nat.reduceEqDiff, Nat.reduceBEq, Nat.reduceLeDiff, ↓reduceIte, reduceCtorEq, Int.reduceAdd, Int.reduceSub, Int.reduceLT, Int.reduceLE, Int.reduceBEq, Int.reduceEq, Int.reduceToNat], 0, by omega, by simp -implicitDefEqProofs (disch := (first | omega | (simp -implicitDefEqProofs only [szs, ne_eq] <;> omega) | fail)) only [go_sem, Nat.reduceAdd, Nat.reduceSub, Nat.reduceMul, Nat.reduceLT, Nat.reduceMod, Nat.reduceDiv, Nat.reduceEqDiff, Nat.reduceBEq, Nat.reduceLeDiff, ↓reduceIte, reduceCtorEq, Int.reduceAdd, Int.reduceSub, Int.reduceLT, Int.reduceLE, Int.reduceBEq, Int.reduceEq, Int.reduceToNat]; rfl, hr.congr rfl rfl (fun _ _ => rfl) (fun i _ => by simp [PS.dropTo]) (fun _ _ => rfl) (fun _ _ _ _ _ => rfl)⟩
  rintro k ⟨⟨n', tr⟩, mks⟩ gg ⟨hmk, hn', t0, t1, t6, p, hpk, t7, hrg⟩
  simp only [Tm.get_mk] at hmk hn' t0 t1 t6 t7
  subst hmk hn'
  obtain ⟨b1, b2, b3, b4, b5⟩ := hrg.blocks
  obtain ⟨cp, p1, p2, p3, p4⟩ := hrg.p
  obtain ⟨f, f1, ⟨fs, fr, fo, fh, fv⟩⟩ := hrg.f
  replace p3 : cp.get 0 = .slice (some (L.fb, 0)) S.n L.fcap L.fex := p3
  have hR1 := hR rd
  have hR2 := hR L.fb
  have hW2 := hW L.fb hrg.lt.2.2.1
  by_cases hp : p < S.n
  · have ho : f.get (p * 3) = .int .i64 (S.ow p) := fo p hp
    have fs' : f.size = S.n * 3 := fs
    have hs : p * 3 + 1 < f.size := by omega
    have hp0 : (0 : Int) ≤ (p : Int) := by omega
    have hp1 : (p : Int) < (S.n : Nat) := by omega
    by_cases h3 : S.ow p = a
    · have hb : (S.ow p == (a : Int)) = true := by simp [h3]
      simp -implicitDefEqProofs (disch := (first | omega | (simp -implicitDefEqProofs only [szs, ne_eq] <;> omega) | fail)) only [go_sem, Nat.reduceAdd, Nat.reduceSub, Nat.reduceMul, Nat.reduceLT, Nat.reduceMod, Nat.reduceDiv, Nat.reduceEqDiff, Nat.reduceBEq, Nat.reduceLeDiff, ↓reduceIte, reduceCtorEq, Int.reduceAdd, Int.reduceSub, Int.reduceLT, Int.reduceLE, Int.reduceBEq, Int.reduceEq, Int.reduceToNat, ir48_l0, t0, t1, t6, t7, p1, p2, p3, hR1, hR2, hW2, f1, fr, ho, hs, hp0, hp1, hb]
      refine ⟨k - 1, by omega, p + 1, by omega, by simp, ?_⟩
      refine (hrg.set_ho f1 hp 0 (fun _ => rfl)).congr rfl rfl (fun _ _ => rfl) (fun i hi => ?_) (fun _ _ => rfl) (fun _ _ _ _ _ => rfl)
      simp only [PS.setHo, PS.dropTo]
      by_cases e : i = p
      · subst e; simp [h3]
      · simp only [if_neg e]
        by_cases e2 : i < p
        · simp [e2, show i < p + 1 by omega]
        · simp [e2, show ¬ i < p + 1 by omega]
    · have hb : (S.ow p == (a : Int)) = false := by simpa using h3
      simp -implicitDefEqProofs (disch := (first | omega | (simp -implicitDefEqProofs only [szs, ne_eq] <;> omega) | fail)) only [go_sem, Nat.reduceAdd, Nat.reduceSub, Nat.reduceMul, Nat.reduceLT, Nat.reduceMod, Nat.reduceDiv, Nat.reduceEqDiff, Nat.reduceBEq, Nat.reduceLeDiff, ↓reduceIte, reduceCtorEq, Int.reduceAdd, Int.reduceSub, Int.reduceLT, Int.reduceLE, Int.reduceBEq, Int.reduceEq, Int.reduceToNat, ir48_l0, t0, t1, t6, t7, p1, p2, p3, hR1, hR2, hW2, f1, fr, ho, hs, hp0, hp1, hb]
      refine ⟨k - 1, by omega, p + 1, by omega, by simp, ?_⟩
      refine hrg.congr rfl rfl (fun _ _ => rfl) (fun i hi => ?_) (fun _ _ => rfl) (fun _ _ _ _ _ => rfl)
      simp only [PS.dropTo]
      by_cases e : i = p
      · subst e; simp [h3]
      · by_cases e2 : i < p
        · simp [e2, show i < p + 1 by omega]
        · simp [e2, show ¬ i < p + 1 by omega]
  · obtain rfl : p = S.n := by omega
    have hdn : (S.dropTo a S.n).n = S.n := rfl
    simp -implicitDefEqProofs (disch := (first | omega | (simp -implicitDefEqProofs only [szs, ne_eq] <;> omega) | fail)) only [go_sem, Nat.reduceAdd, Nat.reduceSub, Nat.reduceMul, Nat.reduceLT, Nat.reduceMod, Nat.reduceDiv, Nat.reduceEqDiff, Nat.reduceBEq, Nat.reduceLeDiff, ↓reduceIte, reduceCtorEq, Int.reduceAdd, Int.reduceSub, Int.reduceLT, Int.reduceLE, Int.reduceBEq, Int.reduceEq, Int.reduceToNat, ir48_l0, t0, t1, t6, t7, p1, p2, p3, hR1, hdn]
    exact hrg.congr rfl rfl (fun _ _ => rfl) (fun _ _ => rfl) (fun _ _ => rfl) (fun _ _ _ _ _ => rfl)
end Go.Proofs.Ytfgdpgagcnelpaa
