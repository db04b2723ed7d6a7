/- The program's pool: New, Copy, Clone, exactly. -/
import Derived.Test.YtfgdpgagcnelpaaR8
set_option linter.unusedVariables false
set_option linter.unusedSimpArgs false
set_option linter.unusedSimpArgs false
set_option maxRecDepth 100000
set_option linter.unusedVariables false
set_option linter.unusedSimpArgs false
namespace Go.Proofs.Ytfgdpgagcnelpaa
open Go Go.Vm
attribute [-go_sem] sz_65
def pagN : Nat := 256
theorem pagN_eq : pagN = 256 := rfl
theorem sz65 : szV Try.prog 65 = some pagN := sz_65
theorem new_loop2 {h : Heap} {R W : Set'} {t : List It} {Q : Ex → Fr → Heap → Prop} {n : Int} {v : V} {m : Nat} {g : Nat → Int} {bad : Bool} (hv : IntsV h v m g) (hR : ∀ b, R b) (hq : okQ m g) (hm8 : m ≤ 8)
    (hend : ∀ f, f.mks = [] → f.tm.n = 57 → f.tm.get 0 = some (.int .i64 n) → f.tm.get 1 = some v → f.tm.get 7 = some (.bool bad) → f.tm.get 6 = some (.int .i64 (sumTo g m)) → resume (Try.prog : MP) R W none Q t (.exit 0) f h)
    {f : Fr} (g0 : f.mks = []) (g1 : f.tm.n = 57) (g2 : f.tm.get 0 = some (.int .i64 n)) (g3 : f.tm.get 1 = some v) (g4 : f.tm.get 6 = some (.int .i64 0)) (g5 : f.tm.get 7 = some (.bool bad)) (g6 : f.tm.get 26 = some v) (g7 : f.tm.get 27 = some (.int .i64 m)) (g8 : f.tm.get 28 = some (.int .i64 0)) :
    GLoop (Try.prog : MP) R W none Q ir10_l0 t f h := by
  refine GLoop.inv hm (fun k f h' => h' = h ∧ f.mks = [] ∧ f.tm.n = 57 ∧ f.tm.get 0 = some (.int .i64 n) ∧ f.tm.get 1 = some v ∧ f.tm.get 7 = some (.bool bad) ∧ f.tm.get 26 = some v ∧ f.tm.get 27 = some (.int .i64 m) ∧ ∃ i : Nat, i + k = m ∧ f.tm.get 28 = some (.int .i64 i) ∧ f.tm.get 6 = some (.int .i64 (sumTo g i))) m ?_ ?_
  · exact ⟨rfl, g0, g1, g2, g3, g5, g6, g7, 0, by omega, g8, g4⟩
  clear g0 g1 g2 g3 g4 g5 g6 g7 g8
  rintro k ⟨⟨n', tr⟩, mks⟩ h' ⟨rfl, hmk, hn, t0, t1, t7, t26, t27, i, hik, t28, t6⟩
  simp only [Tm.get_mk] at hmk hn t0 t1 t7 t26 t27 t28 t6
  subst hmk hn
  have hml := hv.len
  by_cases hlt : i < m
  · have hgi := hq i hlt
    rcases hv.at' with ⟨h0, _⟩ | ⟨b, o, cap, c, ce, rfl, hb, hsz, hc⟩
    · omega
    have hci := hc i hlt
    have hRb := hR b
    have hnn : 0 ≤ g i := by omega
    have hle : g i ≤ 256 := by omega
    have := sumTo_in (g := g) (n := i) (fun a ha => by have := hq a (by omega); omega) i (Nat.le_refl _)
    have hw := IntWalk.i64_in (sumTo g i + g i) (by omega)
    simp -implicitDefEqProofs (disch := (first | omega | (simp -implicitDefEqProofs only [szs, ne_eq] <;> omega) | fail)) only [go_sem, Nat.reduceAdd, Nat.reduceSub, Nat.reduceMul, Nat.reduceLT, Nat.reduceMod, Nat.reduceDiv, Nat.reduceEqDiff, Nat.reduceBEq, Nat.reduceLeDiff, ↓reduceIte, reduceCtorEq, Int.reduceAdd, Int.reduceSub, Int.reduceLT, Int.reduceLE, Int.reduceBEq, Int.reduceEq, Int.reduceToNat, ir10_l0, t0, t1, t7, t26, t27, t28, t6, hb, hci, hRb, hw]
    exact ⟨k - 1, by omega, i + 1, by omega, by simp, rfl⟩
  · have him : i = m := by omega
    subst him
    simp -implicitDefEqProofs (disch := (first | omega | (simp -implicitDefEqProofs only [szs, ne_eq] <;> omega) | fail)) only [go_sem, Nat.reduceAdd, Nat.reduceSub, Nat.reduceMul, Nat.reduceLT, Nat.reduceMod, Nat.reduceDiv, Nat.reduceEqDiff, Nat.reduceBEq, Nat.reduceLeDiff, ↓reduceIte, reduceCtorEq, Int.reduceAdd, Int.reduceSub, Int.reduceLT, Int.reduceLE, Int.reduceBEq, Int.reduceEq, Int.reduceToNat, ir10_l0, t0, t1, t7, t26, t27, t28, t6]
    exact hend _ rfl rfl (by simp -implicitDefEqProofs (disch := (first | omega | (simp -implicitDefEqProofs only [szs, ne_eq] <;> omega) | fail)) only [go_sem, Nat.reduceAdd, Nat.reduceSub, Nat.reduceMul, Nat.reduceLT, Nat.reduceMod, Nat.reduceDiv, Nat.reduceEqDiff, Nat.reduceBEq, Nat.reduceLeDiff, ↓reduceIte, reduceCtorEq, Int.reduceAdd, Int.reduceSub, Int.reduceLT, Int.reduceLE, Int.reduceBEq, Int.reduceEq, Int.reduceToNat, t0]) (by simp -implicitDefEqProofs (disch := (first | omega | (simp -implicitDefEqProofs only [szs, ne_eq] <;> omega) | fail)) only [go_sem, Nat.reduceAdd, Nat.reduceSub, Nat.reduceMul, Nat.reduceLT, Nat.reduceMod, Nat.reduceDiv, Nat.reduceEqDiff, Nat.reduceBEq, Nat.reduceLeDiff, ↓reduceIte, reduceCtorEq, Int.reduceAdd, Int.reduceSub, Int.reduceLT, Int.reduceLE, Int.reduceBEq, Int.reduceEq, Int.reduceToNat, t1]) (by simp -implicitDefEqProofs (disch := (first | omega | (simp -implicitDefEqProofs only [szs, ne_eq] <;> omega) | fail)) only [go_sem, Nat.reduceAdd, Nat.reduceSub, Nat.reduceMul, Nat.reduceLT, Nat.reduceMod, Nat.reduceDiv, Nat.reduceEqDiff, Nat.reduceBEq, Nat.reduceLeDiff, ↓reduceIte, reduceCtorEq, Int.reduceAdd, Int.reduceSub, Int.reduceLT, Int.reduceLE, Int.reduceBEq, Int.reduceEq, Int.reduceToNat, t7]) (by simp -implicitDefEqProofs (disch := (first | omega | (simp -implicitDefEqProofs only [szs, ne_eq] <;> omega) | fail)) only [go_sem, Nat.reduceAdd, Nat.reduceSub, Nat.reduceMul, Nat.reduceLT, Nat.reduceMod, Nat.reduceDiv, Nat.reduceEqDiff, Nat.reduceBEq, Nat.reduceLeDiff, ↓reduceIte, reduceCtorEq, Int.reduceAdd, Int.reduceSub, Int.reduceLT, Int.reduceLE, Int.reduceBEq, Int.reduceEq, Int.reduceToNat, t6])
theorem new_at {h : Heap} {R W : Set'} {n : Int} {v : V} {m : Nat} {g : Nat → Int} (hv : IntsV h v m g) (hR : ∀ b, R b) (hg : goodN n m g) :
    SF Try.prog 10 [.int .i64 n, v] h R W fun r h' => r = .tuple [.ptr (some (h.n + 4, 0)), .int .i64 0] ∧ PoolAt h' (h.n + 4) (newL h.n n.toNat m) (PS.new n.toNat m g) := by
  obtain ⟨hn1, hn2, hm1, hm2, hq, hs⟩ := hg
  refine SF.go hm Try.func10 ir10_eq ?_
  have hlen : lenV Try.prog 49 v h = some (m, []) := by
    rcases hv.at' with ⟨rfl, rfl | ⟨a, rfl⟩⟩ | ⟨b, o, cap, c, ce, rfl, _⟩ <;> simp [lenV, Try.underlying49]
  obtain ⟨k, rfl⟩ := Int.eq_ofNat_of_zero_le (show 0 ≤ n by omega)
  simp -implicitDefEqProofs (disch := (first | omega | (simp -implicitDefEqProofs only [szs, ne_eq] <;> omega) | fail)) only [go_sem, Nat.reduceAdd, Nat.reduceSub, Nat.reduceMul, Nat.reduceLT, Nat.reduceMod, Nat.reduceDiv, Nat.reduceEqDiff, Nat.reduceBEq, Nat.reduceLeDiff, ↓reduceIte, reduceCtorEq, Int.reduceAdd, Int.reduceSub, Int.reduceLT, Int.reduceLE, Int.reduceBEq, Int.reduceEq, Int.reduceToNat, ir10, ↓hlen]
  refine new_loop2 (bad := false) hv (fun _ => .inr (hR _)) hq hm2 ?_ rfl rfl rfl rfl rfl rfl rfl rfl rfl
  rintro ⟨⟨n', tr⟩, mks⟩ g0 g1 g2 g3 g4 g5
  simp only [Tm.get_mk] at g0 g1 g2 g3 g4 g5
  subst g0 g1
  rcases hv.at' with ⟨h0, _⟩ | ⟨b, o, cap, c, ce, rfl, hb, hsz, hc⟩
  · omega
  simp -implicitDefEqProofs (disch := (first | omega | (simp -implicitDefEqProofs only [szs, ne_eq] <;> omega) | fail)) only [go_sem, Nat.reduceAdd, Nat.reduceSub, Nat.reduceMul, Nat.reduceLT, Nat.reduceMod, Nat.reduceDiv, Nat.reduceEqDiff, Nat.reduceBEq, Nat.reduceLeDiff, ↓reduceIte, reduceCtorEq, Int.reduceAdd, Int.reduceSub, Int.reduceLT, Int.reduceLE, Int.reduceBEq, Int.reduceEq, Int.reduceToNat, g2, g3, g4, g5, Try.underlying49]
  rw [if_pos (by omega)]
  have hlt := Heap.lt_of_get hb
  have hb' : (h.push (.cells (Blk.rep (k * 258) ze_67) 67)).get b = some (.cells c ce) := by rw [w_push_ne (show b ≠ h.n by omega)]; exact hb
  refine GCallD.of (R' := (· = b)) (W' := fun _ => False) (clone_ints (cap := cap) hb' hsz (by omega) hm2 rfl) ?_
  rintro v h' ⟨rfl, rfl⟩
  simp -implicitDefEqProofs (disch := (first | omega | (simp -implicitDefEqProofs only [szs, ne_eq] <;> omega) | fail)) only [go_sem, Nat.reduceAdd, Nat.reduceSub, Nat.reduceMul, Nat.reduceLT, Nat.reduceMod, Nat.reduceDiv, Nat.reduceEqDiff, Nat.reduceBEq, Nat.reduceLeDiff, ↓reduceIte, reduceCtorEq, Int.reduceAdd, Int.reduceSub, Int.reduceLT, Int.reduceLE, Int.reduceBEq, Int.reduceEq, Int.reduceToNat, g2, g3, g4, g5, Try.underlying49]
  rw [if_pos (by omega)]
  simp -implicitDefEqProofs (disch := (first | omega | (simp -implicitDefEqProofs only [szs, ne_eq] <;> omega) | fail)) only [go_sem, Nat.reduceAdd, Nat.reduceSub, Nat.reduceMul, Nat.reduceLT, Nat.reduceMod, Nat.reduceDiv, Nat.reduceEqDiff, Nat.reduceBEq, Nat.reduceLeDiff, ↓reduceIte, reduceCtorEq, Int.reduceAdd, Int.reduceSub, Int.reduceLT, Int.reduceLE, Int.reduceBEq, Int.reduceEq, Int.reduceToNat, g2, g3, g4, g5, Try.underlying49]
  simp only [List.not_mem_nil, or_false, false_or, and_false, not_false_eq_true, implies_true, and_true, true_and, false_implies, or_self]
  exact ⟨⟨fun _ _ => by omega, fun _ _ => by omega⟩, fun x _ e => .inr (hR x), new_pool _ _ _ (by omega) (by omega) (fun i hi => hc i hi)⟩
theorem new_bad {h : Heap} {R W : Set'} {n : Int} {v : V} {m : Nat} {g : Nat → Int} (hv : IntsV h v m g) (hR : ∀ b, R b) (hg : ¬ goodN n m g) :
    SF Try.prog 10 [.int .i64 n, v] h R W fun r h' => r = .tuple [.ptr none, .int .i64 2] := by
  refine (new_ok hv hR).mono ?_
  rintro r h' (h1 | ⟨_, h1, h2, h3, h4, h5, h6, _⟩)
  · exact h1
  · exact absurd ⟨h1, h2, h3, h4, h5, h6⟩ hg
theorem copy_no {h : Heap} {R W : Set'} {bp : Nat} {L : PL} {S : PS} (hp : PoolAt h bp L S) (hR : ∀ b, R b) (k l : Int) (ho : ¬ (Owned S k ∧ Owned S l)) :
    SF Try.prog 28 [.ptr (some (bp, 0)), .int .i64 k, .int .i64 l] h R W fun v h' => v = .int .i64 6 ∧ h' = h := by
  refine SF.go hm Try.func28 ir28_eq ?_
  simp -implicitDefEqProofs (disch := (first | omega | (simp -implicitDefEqProofs only [szs, ne_eq] <;> omega) | fail)) only [go_sem, Nat.reduceAdd, Nat.reduceSub, Nat.reduceMul, Nat.reduceLT, Nat.reduceMod, Nat.reduceDiv, Nat.reduceEqDiff, Nat.reduceBEq, Nat.reduceLeDiff, ↓reduceIte, reduceCtorEq, Int.reduceAdd, Int.reduceSub, Int.reduceLT, Int.reduceLE, Int.reduceBEq, Int.reduceEq, Int.reduceToNat, ir28]
  by_cases h0 : Owned S k
  · have h2 : ¬ Owned S l := fun h => ho ⟨h0, h⟩
    obtain ⟨k0, k1, k2⟩ := h0
    obtain ⟨i, rfl⟩ := Int.eq_ofNat_of_zero_le k0
    refine GCall.of (at_yes hp (.inr (hR _)) (.inr (hR _)) i (by omega) (by simpa using k2)) ?_
    rintro v h' ⟨rfl, rfl⟩
    simp -implicitDefEqProofs (disch := (first | omega | (simp -implicitDefEqProofs only [szs, ne_eq] <;> omega) | fail)) only [go_sem, Nat.reduceAdd, Nat.reduceSub, Nat.reduceMul, Nat.reduceLT, Nat.reduceMod, Nat.reduceDiv, Nat.reduceEqDiff, Nat.reduceBEq, Nat.reduceLeDiff, ↓reduceIte, reduceCtorEq, Int.reduceAdd, Int.reduceSub, Int.reduceLT, Int.reduceLE, Int.reduceBEq, Int.reduceEq, Int.reduceToNat]
    refine GCall.of (at_no hp (.inr (hR _)) (.inr (hR _)) l h2) ?_
    rintro v h' ⟨rfl, rfl⟩
    simp -implicitDefEqProofs (disch := (first | omega | (simp -implicitDefEqProofs only [szs, ne_eq] <;> omega) | fail)) only [go_sem, Nat.reduceAdd, Nat.reduceSub, Nat.reduceMul, Nat.reduceLT, Nat.reduceMod, Nat.reduceDiv, Nat.reduceEqDiff, Nat.reduceBEq, Nat.reduceLeDiff, ↓reduceIte, reduceCtorEq, Int.reduceAdd, Int.reduceSub, Int.reduceLT, Int.reduceLE, Int.reduceBEq, Int.reduceEq, Int.reduceToNat]
  · refine GCall.of (at_no hp (.inr (hR _)) (.inr (hR _)) k h0) ?_
    rintro v h' ⟨rfl, rfl⟩
    simp -implicitDefEqProofs (disch := (first | omega | (simp -implicitDefEqProofs only [szs, ne_eq] <;> omega) | fail)) only [go_sem, Nat.reduceAdd, Nat.reduceSub, Nat.reduceMul, Nat.reduceLT, Nat.reduceMod, Nat.reduceDiv, Nat.reduceEqDiff, Nat.reduceBEq, Nat.reduceLeDiff, ↓reduceIte, reduceCtorEq, Int.reduceAdd, Int.reduceSub, Int.reduceLT, Int.reduceLE, Int.reduceBEq, Int.reduceEq, Int.reduceToNat]
    by_cases h2 : Owned S l
    · obtain ⟨k0, k1, k2⟩ := h2
      obtain ⟨i, rfl⟩ := Int.eq_ofNat_of_zero_le k0
      refine GCall.of (at_yes hp (.inr (hR _)) (.inr (hR _)) i (by omega) (by simpa using k2)) ?_
      rintro v h' ⟨rfl, rfl⟩
      simp -implicitDefEqProofs (disch := (first | omega | (simp -implicitDefEqProofs only [szs, ne_eq] <;> omega) | fail)) only [go_sem, Nat.reduceAdd, Nat.reduceSub, Nat.reduceMul, Nat.reduceLT, Nat.reduceMod, Nat.reduceDiv, Nat.reduceEqDiff, Nat.reduceBEq, Nat.reduceLeDiff, ↓reduceIte, reduceCtorEq, Int.reduceAdd, Int.reduceSub, Int.reduceLT, Int.reduceLE, Int.reduceBEq, Int.reduceEq, Int.reduceToNat]
    · refine GCall.of (at_no hp (.inr (hR _)) (.inr (hR _)) l h2) ?_
      rintro v h' ⟨rfl, rfl⟩
      simp -implicitDefEqProofs (disch := (first | omega | (simp -implicitDefEqProofs only [szs, ne_eq] <;> omega) | fail)) only [go_sem, Nat.reduceAdd, Nat.reduceSub, Nat.reduceMul, Nat.reduceLT, Nat.reduceMod, Nat.reduceDiv, Nat.reduceEqDiff, Nat.reduceBEq, Nat.reduceLeDiff, ↓reduceIte, reduceCtorEq, Int.reduceAdd, Int.reduceSub, Int.reduceLT, Int.reduceLE, Int.reduceBEq, Int.reduceEq, Int.reduceToNat]
set_option maxHeartbeats 1000000 in
theorem copy_at {h : Heap} {R W : Set'} {bp : Nat} {L : PL} {S : PS} (hp : PoolAt h bp L S) (hR : ∀ b, R b) (hWf : W L.fb) {i j : Nat} (hi : i < S.n) (hj : j < S.n) (hi0 : S.ho i ≠ 0) (hj0 : S.ho j ≠ 0) :
    SF Try.prog 28 [.ptr (some (bp, 0)), .int .i64 i, .int .i64 j] h R W fun v h' => v = .int .i64 0 ∧ PoolAt h' bp L (S.cpy i j) := by
  obtain ⟨f, hf, if'⟩ := hp.f
  have fs := if'.size
  have hro := if'.ro
  have hN := pagN_eq
  have hRf := hR L.fb
  obtain ⟨vs, evs⟩ : ∃ vs, vs = f.gets (i * 258 + 2) pagN := ⟨_, rfl⟩
  have hl : vs.length = 256 := by rw [evs, Blk.length_gets]; exact hN
  have hl' : vs.length = pagN := hl
  have hg : ∀ y, y < 256 → vs.getD y undefV = .int .u8 (S.byt i y) := fun y hy => by
    rw [evs, List.getD_eq_getElem?_getD, Blk.gets_get _ _ _ _ (by omega), Option.getD_some]
    exact if'.byt i y hi hy
  have hone : allOne vs = true := one_int vs fun y hy => ⟨_, _, hg y (by omega)⟩
  refine SF.go hm Try.func28 ir28_eq ?_
  simp -implicitDefEqProofs (disch := (first | omega | (simp -implicitDefEqProofs only [szs, ne_eq] <;> omega) | fail)) only [go_sem, Nat.reduceAdd, Nat.reduceSub, Nat.reduceMul, Nat.reduceLT, Nat.reduceMod, Nat.reduceDiv, Nat.reduceEqDiff, Nat.reduceBEq, Nat.reduceLeDiff, ↓reduceIte, reduceCtorEq, Int.reduceAdd, Int.reduceSub, Int.reduceLT, Int.reduceLE, Int.reduceBEq, Int.reduceEq, Int.reduceToNat, ir28]
  refine GCall.of (at_yes hp (.inr (hR _)) (.inr (hR _)) i hi hi0) ?_
  rintro v h' ⟨rfl, rfl⟩
  simp -implicitDefEqProofs (disch := (first | omega | (simp -implicitDefEqProofs only [szs, ne_eq] <;> omega) | fail)) only [go_sem, Nat.reduceAdd, Nat.reduceSub, Nat.reduceMul, Nat.reduceLT, Nat.reduceMod, Nat.reduceDiv, Nat.reduceEqDiff, Nat.reduceBEq, Nat.reduceLeDiff, ↓reduceIte, reduceCtorEq, Int.reduceAdd, Int.reduceSub, Int.reduceLT, Int.reduceLE, Int.reduceBEq, Int.reduceEq, Int.reduceToNat]
  refine GCall.of (at_yes hp (.inr (hR _)) (.inr (hR _)) j hj hj0) ?_
  rintro v h' ⟨rfl, rfl⟩
  have hsi : i * 258 + 2 + pagN ≤ f.size := by omega
  have hsj : j * 258 + 2 + pagN ≤ f.size := by omega
  simp -implicitDefEqProofs (disch := (first | omega | (simp -implicitDefEqProofs only [szs, ne_eq] <;> omega) | fail)) only [go_sem, Nat.reduceAdd, Nat.reduceSub, Nat.reduceMul, Nat.reduceLT, Nat.reduceMod, Nat.reduceDiv, Nat.reduceEqDiff, Nat.reduceBEq, Nat.reduceLeDiff, ↓reduceIte, reduceCtorEq, Int.reduceAdd, Int.reduceSub, Int.reduceLT, Int.reduceLE, Int.reduceBEq, Int.reduceEq, Int.reduceToNat, sz65, hf, hRf, hWf, hro, ← evs, ↓hone, hl']
  refine (hp.put1 (j := 0) hf hj (g := S.byt i) (by omega) hl hg).congr rfl rfl (fun _ _ => rfl) (fun _ _ => rfl) (fun _ _ => rfl) (fun y z _ hz => ?_) (fun _ _ => rfl)
  simp only [PS.cpy, PS.put, Nat.sub_zero]
  by_cases e : y = j
  · rw [if_pos e, if_pos ⟨e, by omega, by omega⟩]
  · rw [if_neg e, if_neg (fun h => e h.1)]
theorem clone_ints' {h : Heap} {R W : Set'} {b o m cap : Nat} {ex : Bool} {c : Blk} {ce : TypeId} (hb : h.get b = some (.cells c ce)) (hsz : o + m ≤ c.size) (h0 : 0 < m) (hm8 : m ≤ 8) (hR : R b) :
    SF Try.prog 29 [.slice (some (b, o)) m cap ex] h R W fun v h' => v = .slice (some (h.n + 1, 0)) m m false ∧ h' = (h.push (.cells (Blk.of []) 3)).push (.cells (Blk.of (c.gets o m)) 3) := by
  have hlt := Heap.lt_of_get hb
  refine SF.go hm Try.func29 ir29_eq ?_
  have hA := append_whole (e := 3) (bytes := 8) (eb := h.n) (cap := cap) (ex := ex) (h := h.push (.cells (Blk.of []) 3)) (te := 3) (b := b) (o := o) (m := m) (c := c) (ce := ce) (by rw [w_push_eq rfl]) (by rw [w_push_ne (show b ≠ h.n by omega)]; exact hb) hsz h0 (by omega) (by omega)
  simp -implicitDefEqProofs (disch := (first | omega | (simp -implicitDefEqProofs only [szs, ne_eq] <;> omega) | fail)) only [go_sem, Nat.reduceAdd, Nat.reduceSub, Nat.reduceMul, Nat.reduceLT, Nat.reduceMod, Nat.reduceDiv, Nat.reduceEqDiff, Nat.reduceBEq, Nat.reduceLeDiff, ↓reduceIte, reduceCtorEq, Int.reduceAdd, Int.reduceSub, Int.reduceLT, Int.reduceLE, Int.reduceBEq, Int.reduceEq, Int.reduceToNat, ir29, Try.underlying49, appendV_of ap_49, ↓hA, hR]
theorem ap_59 : apT Try.prog 59 59 = some (67, 258, 272) := by kernel_rfl
theorem bs59 : builtSliceV Try.prog 59 0 [] = some (67, []) := by kernel_rfl
theorem clone_frames {h : Heap} {R W : Set'} {b n cap : Nat} {ex : Bool} {c : Blk} {ce : TypeId} (hb : h.get b = some (.cells c ce)) (hsz : c.size = n * 258) (h0 : 0 < n) (hn : n ≤ 256) (hR : R b) :
    SF Try.prog 44 [.slice (some (b, 0)) n cap ex] h R W fun v h' => v = .slice (some (h.n + 1, 0)) n n false ∧ h' = (h.push (.cells (Blk.of []) 67)).push (.cells (Blk.of (c.gets 0 (n * 258))) 67) := by
  have hlt := Heap.lt_of_get hb
  refine SF.go hm Try.func44 ir44_eq ?_
  have hA := append_wholeS (e := 67) (sz := 258) (bytes := 272) (eb := h.n) (cap := cap) (ex := ex) (h := h.push (.cells (Blk.of []) 67)) (te := 67) (b := b) (o := 0) (m := n) (c := c) (ce := ce) (by rw [w_push_eq rfl]) (by rw [w_push_ne (show b ≠ h.n by omega)]; exact hb) (by omega) h0 (by omega) (by omega)
  simp -implicitDefEqProofs (disch := (first | omega | (simp -implicitDefEqProofs only [szs, ne_eq] <;> omega) | fail)) only [go_sem, Nat.reduceAdd, Nat.reduceSub, Nat.reduceMul, Nat.reduceLT, Nat.reduceMod, Nat.reduceDiv, Nat.reduceEqDiff, Nat.reduceBEq, Nat.reduceLeDiff, ↓reduceIte, reduceCtorEq, Int.reduceAdd, Int.reduceSub, Int.reduceLT, Int.reduceLE, Int.reduceBEq, Int.reduceEq, Int.reduceToNat, ir44, Try.underlying59, bs59, appendV_of ap_59, ↓hA, hR]
set_option maxHeartbeats 1000000 in
theorem clone_ok {h : Heap} {R W : Set'} {bp : Nat} {L : PL} {S : PS} (hp : PoolAt h bp L S) (w : WF S) (hna : 1 ≤ S.na ∧ S.na ≤ 8) (hR : ∀ b, R b) :
    SF Try.prog 25 [.ptr (some (bp, 0))] h R W fun v h' => ∃ bp' L', v = .ptr (some (bp', 0)) ∧ PoolAt h' bp' L' S ∧ h.n ≤ bp' ∧ h.n ≤ L'.fb ∧ h.n ≤ L'.qb ∧ h.n ≤ L'.ub ∧ h.n ≤ h'.n ∧ ∀ b, b < h.n → h'.get b = h.get b := by
  obtain ⟨c, h1, ic⟩ := hp.p
  obtain ⟨f, hf, if'⟩ := hp.f
  obtain ⟨q, hq, iq⟩ := hp.q
  obtain ⟨u, hu, iu⟩ := hp.u
  have hsz := ic.size
  have c0 := ic.c0
  have c1 := ic.c1
  have c2 := ic.c2
  have fs := if'.size
  have qs := iq.size
  have us := iu.size
  have hn := w.n
  have hpos := hp.pos
  have l1 := Heap.lt_of_get h1
  have lf := Heap.lt_of_get hf
  have lq := Heap.lt_of_get hq
  have lu := Heap.lt_of_get hu
  have hR1 := hR bp
  refine SF.go hm Try.func25 ir25_eq ?_
  simp -implicitDefEqProofs (disch := (first | omega | (simp -implicitDefEqProofs only [szs, ne_eq] <;> omega) | fail)) only [go_sem, Nat.reduceAdd, Nat.reduceSub, Nat.reduceMul, Nat.reduceLT, Nat.reduceMod, Nat.reduceDiv, Nat.reduceEqDiff, Nat.reduceBEq, Nat.reduceLeDiff, ↓reduceIte, reduceCtorEq, Int.reduceAdd, Int.reduceSub, Int.reduceLT, Int.reduceLE, Int.reduceBEq, Int.reduceEq, Int.reduceToNat, ir25]
  refine GCall.of (there_ok hp (.inr (hR _))) ?_
  rintro v h' ⟨rfl, rfl⟩
  simp -implicitDefEqProofs (disch := (first | omega | (simp -implicitDefEqProofs only [szs, ne_eq] <;> omega) | fail)) only [go_sem, Nat.reduceAdd, Nat.reduceSub, Nat.reduceMul, Nat.reduceLT, Nat.reduceMod, Nat.reduceDiv, Nat.reduceEqDiff, Nat.reduceBEq, Nat.reduceLeDiff, ↓reduceIte, reduceCtorEq, Int.reduceAdd, Int.reduceSub, Int.reduceLT, Int.reduceLE, Int.reduceBEq, Int.reduceEq, Int.reduceToNat, h1, c0, hR1]
  refine GCallD.of (R' := fun _ => True) (W' := fun _ => False) (clone_frames hf fs hpos hn trivial) ?_
  rintro v g1 ⟨rfl, rfl⟩
  obtain ⟨F, eF⟩ : ∃ F, F = Blk.of (f.gets 0 (S.n * 258)) := ⟨_, rfl⟩
  have sF : F.size = S.n * 258 := by rw [eF, w_of_size, Blk.length_gets]
  have rF : F.ro = false := by rw [eF]; rfl
  have gF : ∀ y, y < S.n * 258 → F.get y = f.get y := fun y hy => by rw [eF, of_gets_get hy, Nat.zero_add]
  rw [← eF]
  obtain ⟨g1, eg1, ng1, gg1, kg1⟩ : ∃ g1, (h'.push (.cells (Blk.of []) 67)).push (.cells F 67) = g1 ∧ g1.n = h'.n + 2 ∧ g1.get (h'.n + 1) = some (.cells F 67) ∧ ∀ b, b < h'.n → g1.get b = h'.get b := ⟨_, rfl, by simp, w_push_eq (by simp) _, fun b hb => by rw [w_push_ne (by simp; omega), w_push_ne (by omega)]⟩
  rw [eg1]
  have h11 := (kg1 bp l1).trans h1
  have hq1 := (kg1 _ lq).trans hq
  simp -implicitDefEqProofs (disch := (first | omega | (simp -implicitDefEqProofs only [szs, ne_eq] <;> omega) | fail)) only [go_sem, Nat.reduceAdd, Nat.reduceSub, Nat.reduceMul, Nat.reduceLT, Nat.reduceMod, Nat.reduceDiv, Nat.reduceEqDiff, Nat.reduceBEq, Nat.reduceLeDiff, ↓reduceIte, reduceCtorEq, Int.reduceAdd, Int.reduceSub, Int.reduceLT, Int.reduceLE, Int.reduceBEq, Int.reduceEq, Int.reduceToNat, h11, c0, c1, hR1]
  refine GCallD.of (R' := fun _ => True) (W' := fun _ => False) (clone_ints' hq1 (o := 0) (by omega) (by omega) hna.2 trivial) ?_
  rintro v g2 ⟨rfl, rfl⟩
  obtain ⟨Q1, eQ⟩ : ∃ Q1, Q1 = Blk.of (q.gets 0 S.na) := ⟨_, rfl⟩
  have sQ : Q1.size = S.na := by rw [eQ, w_of_size, Blk.length_gets]
  have rQ : Q1.ro = false := by rw [eQ]; rfl
  have gQ : ∀ y, y < S.na → Q1.get y = q.get y := fun y hy => by rw [eQ, of_gets_get hy, Nat.zero_add]
  rw [← eQ]
  obtain ⟨g2, eg2, ng2, gg2, kg2⟩ : ∃ g2, (g1.push (.cells (Blk.of []) 3)).push (.cells Q1 3) = g2 ∧ g2.n = g1.n + 2 ∧ g2.get (g1.n + 1) = some (.cells Q1 3) ∧ ∀ b, b < g1.n → g2.get b = g1.get b := ⟨_, rfl, by simp, w_push_eq (by simp) _, fun b hb => by rw [w_push_ne (by simp; omega), w_push_ne (by omega)]⟩
  rw [eg2]
  have h12 := (kg2 bp (by omega)).trans h11
  have hu2 : g2.get L.ub = some (.cells u 3) := by rw [kg2 _ (by omega), kg1 _ lu]; exact hu
  simp -implicitDefEqProofs (disch := (first | omega | (simp -implicitDefEqProofs only [szs, ne_eq] <;> omega) | fail)) only [go_sem, Nat.reduceAdd, Nat.reduceSub, Nat.reduceMul, Nat.reduceLT, Nat.reduceMod, Nat.reduceDiv, Nat.reduceEqDiff, Nat.reduceBEq, Nat.reduceLeDiff, ↓reduceIte, reduceCtorEq, Int.reduceAdd, Int.reduceSub, Int.reduceLT, Int.reduceLE, Int.reduceBEq, Int.reduceEq, Int.reduceToNat, h12, c0, c1, c2, hR1]
  refine GCallD.of (R' := fun _ => True) (W' := fun _ => False) (clone_ints' hu2 (o := 0) (by omega) (by omega) hna.2 trivial) ?_
  rintro v g3 ⟨rfl, rfl⟩
  obtain ⟨U1, eU⟩ : ∃ U1, U1 = Blk.of (u.gets 0 S.na) := ⟨_, rfl⟩
  have sU : U1.size = S.na := by rw [eU, w_of_size, Blk.length_gets]
  have rU : U1.ro = false := by rw [eU]; rfl
  have gU : ∀ y, y < S.na → U1.get y = u.get y := fun y hy => by rw [eU, of_gets_get hy, Nat.zero_add]
  rw [← eU]
  obtain ⟨g3, eg3, ng3, gg3, kg3⟩ : ∃ g3, (g2.push (.cells (Blk.of []) 3)).push (.cells U1 3) = g3 ∧ g3.n = g2.n + 2 ∧ g3.get (g2.n + 1) = some (.cells U1 3) ∧ ∀ b, b < g2.n → g3.get b = g2.get b := ⟨_, rfl, by simp, w_push_eq (by simp) _, fun b hb => by rw [w_push_ne (by simp; omega), w_push_ne (by omega)]⟩
  rw [eg3]
  simp -implicitDefEqProofs (disch := (first | omega | (simp -implicitDefEqProofs only [szs, ne_eq] <;> omega) | fail)) only [go_sem, Nat.reduceAdd, Nat.reduceSub, Nat.reduceMul, Nat.reduceLT, Nat.reduceMod, Nat.reduceDiv, Nat.reduceEqDiff, Nat.reduceBEq, Nat.reduceLeDiff, ↓reduceIte, reduceCtorEq, Int.reduceAdd, Int.reduceSub, Int.reduceLT, Int.reduceLE, Int.reduceBEq, Int.reduceEq, Int.reduceToNat, h12, c0, c1, c2, hR1]
  have k13 : ∀ b, b < h'.n → g3.get b = h'.get b := fun b hb => by rw [kg3 b (by omega), kg2 b (by omega), kg1 b hb]
  have f3 : g3.get (h'.n + 1) = some (.cells F 67) := by rw [kg3 _ (by omega), kg2 _ (by omega)]; exact gg1
  have q3 : g3.get (g1.n + 1) = some (.cells Q1 3) := by rw [kg3 _ (by omega)]; exact gg2
  have kp : ∀ (o : O) b, b < g3.n → (g3.push o).get b = g3.get b := fun o b hb => w_push_ne (by omega) o
  refine ⟨?_, ⟨fun b _ _ => .inr (hR b), fun b _ h => h.elim, fun b _ _ => .inr (hR b), fun b _ h => h.elim, fun b _ _ => .inr (hR b), fun b _ h => h.elim⟩, g3.n, ⟨h'.n + 1, g1.n + 1, g2.n + 1, S.n, S.na, S.na, false, false, false⟩, rfl, ⟨hpos, ⟨_, w_push_eq rfl _, rfl, rfl, rfl, rfl⟩, ⟨F, by rw [kp _ _ (by show h'.n + 1 < g3.n; omega)]; exact f3, sF, rF, fun i hi => ?_, fun i hi => ?_, fun i j hi hj => ?_⟩, ⟨Q1, by rw [kp _ _ (by show g1.n + 1 < g3.n; omega)]; exact q3, by omega, rQ, fun i hi => by rw [gQ i hi]; exact iq.get i hi⟩, ⟨U1, by rw [kp _ _ (by show g2.n + 1 < g3.n; omega)]; exact gg3, by omega, rU, fun i hi => by rw [gU i hi]; exact iu.get i hi⟩, by show g1.n + 1 ≠ g2.n + 1; omega, hp.lo⟩, by omega, by show h'.n ≤ h'.n + 1; omega, by show h'.n ≤ g1.n + 1; omega, by show h'.n ≤ g2.n + 1; omega, by omega, fun b hb => by rw [kp _ _ (by omega)]; exact k13 b hb⟩
  · simp only [List.not_mem_nil, or_false, false_or, and_false, false_and, false_implies, implies_true, not_false_eq_true, List.mem_singleton, List.mem_cons, and_true, true_and]
    all_goals (try and_intros)
    all_goals (intros; omega)
  · rw [gF _ (by omega)]; exact if'.ow i hi
  · rw [gF _ (by omega)]; exact if'.ho i hi
  · rw [gF _ (by omega)]; exact if'.byt i j hi hj
end Go.Proofs.Ytfgdpgagcnelpaa
