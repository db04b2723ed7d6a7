/- The document's pool: New, Clone. -/
import Derived.Test.YtfgdpgagcnelpaaR6
set_option linter.unusedVariables false
set_option linter.unusedSimpArgs false
set_option linter.unusedSimpArgs false
set_option maxRecDepth 100000
set_option linter.unusedVariables false
set_option linter.unusedSimpArgs false
namespace Go.Proofs.Ytfgdpgagcnelpaa
open Go Go.Vm
theorem sumTo_mono {g : Nat → Int} {m : Nat} (hg : ∀ i, i < m → 0 ≤ g i) : ∀ {i : Nat}, i ≤ m → sumTo g i ≤ sumTo g m := by
  induction m with
  | zero => intro i hi; obtain rfl : i = 0 := by omega
            exact Int.le_refl _
  | succ m ih =>
    intro i hi
    by_cases e : i = m + 1
    · subst e; exact Int.le_refl _
    · have h1 := ih (fun j hj => hg j (by omega)) (i := i) (by omega)
      have h2 := hg m (by omega)
      simp only [sumTo]; omega
/-- A slice of numbers, of any capacity. -/
def IntsW (h : Heap) (v : V) (m : Nat) (g : Nat → Int) : Prop := m ≤ 9223372036854775807 ∧ ((m = 0 ∧ (v = .slice none 0 0 true ∨ ∃ a, v = .esl a)) ∨ ∃ b o cap ex c ce, v = .slice (some (b, o)) m cap ex ∧ h.get b = some (.cells c ce) ∧ o + m ≤ c.size ∧ ∀ i, i < m → c.get (o + i) = .int .i64 (g i))
theorem IntsV.w {h : Heap} {v : V} {m : Nat} {g : Nat → Int} (hv : IntsV h v m g) : IntsW h v m g := by
  refine ⟨hv.len, hv.at'.imp id ?_⟩
  rintro ⟨b, o, cap, c, ce, e⟩
  exact ⟨b, o, cap, true, c, ce, e⟩
theorem IntsW.lenV {h : Heap} {v : V} {m : Nat} {g : Nat → Int} (hv : IntsW h v m g) (k : Heap) : lenV Try.prog 49 v k = some (m, []) := by
  rcases hv.2 with ⟨rfl, rfl | ⟨a, rfl⟩⟩ | ⟨b, o, cap, ex, c, ce, rfl, _⟩ <;> simp [Vm.lenV, Try.underlying49]
structure goodN (n : Int) (m : Nat) (g : Nat → Int) : Prop where
  n1 : 1 ≤ n
  n2 : n ≤ 256
  m1 : 1 ≤ m
  m2 : m ≤ 8
  q : okQ m g
  s : sumTo g m ≤ n
theorem goodN.bad {n : Int} {m i : Nat} {g : Nat → Int} (hi : i < m) (h : g i < 0 ∨ g i > n - sumTo g i) : ¬ goodN n m g := fun hg => by
  have h1 := sumTo_mono (g := g) (m := m) (fun i hi => (hg.q i hi).1) (i := i + 1) (by omega)
  have h2 := hg.s
  have h3 := (hg.q i hi).1
  simp only [sumTo] at h1
  omega
set_option maxHeartbeats 2000000 in
theorem rnew_ok {h : Heap} {R W : Set'} {n : Int} {v : V} {m : Nat} {g : Nat → Int} (hv : IntsW h v m g) (hR : ∀ b, R b) :
    SF Try.prog 23 [.int .i64 n, v] h R W fun r h' => h.n ≤ h'.n ∧ (∀ b, b < h.n → h'.get b = h.get b) ∧ ((¬ goodN n m g ∧ r = .ptr none) ∨ (goodN n m g ∧ ∃ rd L bv, r = .ptr (some (rd, 0)) ∧ RPool h' h.n rd L (PS.new n.toNat m g) bv)) := by
  have hlv := hv.lenV
  have hml := hv.1
  refine SF.go hm Try.func23 ir23_eq ?_
  by_cases hn1 : n < 1
  · simp -implicitDefEqProofs (disch := (first | omega | (simp -implicitDefEqProofs only [szs, ne_eq] <;> omega) | fail)) only [go_sem, Nat.reduceAdd, Nat.reduceSub, Nat.reduceMul, Nat.reduceLT, Nat.reduceMod, Nat.reduceDiv, Nat.reduceEqDiff, Nat.reduceBEq, Nat.reduceLeDiff, ↓reduceIte, reduceCtorEq, Int.reduceAdd, Int.reduceSub, Int.reduceLT, Int.reduceLE, Int.reduceBEq, Int.reduceEq, Int.reduceToNat, ir23, ↓hlv, undefV, hn1]
    exact .inl fun hg => by have := hg.n1; omega
  by_cases hn2 : n > 256
  · simp -implicitDefEqProofs (disch := (first | omega | (simp -implicitDefEqProofs only [szs, ne_eq] <;> omega) | fail)) only [go_sem, Nat.reduceAdd, Nat.reduceSub, Nat.reduceMul, Nat.reduceLT, Nat.reduceMod, Nat.reduceDiv, Nat.reduceEqDiff, Nat.reduceBEq, Nat.reduceLeDiff, ↓reduceIte, reduceCtorEq, Int.reduceAdd, Int.reduceSub, Int.reduceLT, Int.reduceLE, Int.reduceBEq, Int.reduceEq, Int.reduceToNat, ir23, ↓hlv, undefV, hn1, hn2]
    exact .inl fun hg => by have := hg.n2; omega
  by_cases hm1 : (m : Int) < 1
  · simp -implicitDefEqProofs (disch := (first | omega | (simp -implicitDefEqProofs only [szs, ne_eq] <;> omega) | fail)) only [go_sem, Nat.reduceAdd, Nat.reduceSub, Nat.reduceMul, Nat.reduceLT, Nat.reduceMod, Nat.reduceDiv, Nat.reduceEqDiff, Nat.reduceBEq, Nat.reduceLeDiff, ↓reduceIte, reduceCtorEq, Int.reduceAdd, Int.reduceSub, Int.reduceLT, Int.reduceLE, Int.reduceBEq, Int.reduceEq, Int.reduceToNat, ir23, ↓hlv, undefV, hn1, hn2, hm1]
    exact .inl fun hg => by have := hg.m1; omega
  by_cases hm2 : (m : Int) > 8
  · simp -implicitDefEqProofs (disch := (first | omega | (simp -implicitDefEqProofs only [szs, ne_eq] <;> omega) | fail)) only [go_sem, Nat.reduceAdd, Nat.reduceSub, Nat.reduceMul, Nat.reduceLT, Nat.reduceMod, Nat.reduceDiv, Nat.reduceEqDiff, Nat.reduceBEq, Nat.reduceLeDiff, ↓reduceIte, reduceCtorEq, Int.reduceAdd, Int.reduceSub, Int.reduceLT, Int.reduceLE, Int.reduceBEq, Int.reduceEq, Int.reduceToNat, ir23, ↓hlv, undefV, hn1, hn2, hm1, hm2]
    exact .inl fun hg => by have := hg.m2; omega
  rcases hv.2 with ⟨h0, _⟩ | ⟨b, o, cap, ex, c, ce, rfl, hb, hsz, hc⟩
  · omega
  have hRb := hR b
  obtain ⟨k0, rfl⟩ := Int.eq_ofNat_of_zero_le (show 0 ≤ n by omega)
  simp -implicitDefEqProofs (disch := (first | omega | (simp -implicitDefEqProofs only [szs, ne_eq] <;> omega) | fail)) only [go_sem, Nat.reduceAdd, Nat.reduceSub, Nat.reduceMul, Nat.reduceLT, Nat.reduceMod, Nat.reduceDiv, Nat.reduceEqDiff, Nat.reduceBEq, Nat.reduceLeDiff, ↓reduceIte, reduceCtorEq, Int.reduceAdd, Int.reduceSub, Int.reduceLT, Int.reduceLE, Int.reduceBEq, Int.reduceEq, Int.reduceToNat, ir23, ↓hlv, undefV, hn1, hn2, hm1, hm2]
  refine GLoop.inv hm (fun k f gg => f.mks = [] ∧ f.tm.n = 55 ∧ f.tm.get 0 = some (.int .i64 k0) ∧ f.tm.get 1 = some (.slice (some (b, o)) m cap ex) ∧ gg = h ∧ ∃ p : Nat, p + k = m ∧ f.tm.get 6 = some (.int .i64 p) ∧ f.tm.get 5 = some (.int .i64 (k0 - sumTo g p)) ∧ sumTo g p ≤ k0 ∧ 0 ≤ sumTo g p ∧ okQ p g) m ?_ ?_
  · exact ⟨rfl, rfl, by simp -implicitDefEqProofs (disch := (first | omega | (simp -implicitDefEqProofs only [szs, ne_eq] <;> omega) | fail)) only [go_sem, Nat.reduceAdd, Nat.reduceSub, Nat.reduceMul, Nat.reduceLT, Nat.reduceMod, Nat.reduceDiv, Nat.reduceEqDiff, Nat.reduceBEq, Nat.reduceLeDiff, ↓reduceIte, reduceCtorEq, Int.reduceAdd, Int.reduceSub, Int.reduceLT, Int.reduceLE, Int.reduceBEq, Int.reduceEq, Int.reduceToNat], by simp -implicitDefEqProofs (disch := (first | omega | (simp -implicitDefEqProofs only [szs, ne_eq] <;> omega) | fail)) only [go_sem, Nat.reduceAdd, Nat.reduceSub, Nat.reduceMul, Nat.reduceLT, Nat.reduceMod, Nat.reduceDiv, Nat.reduceEqDiff, Nat.reduceBEq, Nat.reduceLeDiff, ↓reduceIte, reduceCtorEq, Int.reduceAdd, Int.reduceSub, Int.reduceLT, Int.reduceLE, Int.reduceBEq, Int.reduceEq, Int.reduceToNat], rfl, 0, by omega, by simp -implicitDefEqProofs (disch := (first | omega | (simp -implicitDefEqProofs only [szs, ne_eq] <;> omega) | fail)) only [go_sem, Nat.reduceAdd, Nat.reduceSub, Nat.reduceMul, Nat.reduceLT, Nat.reduceMod, Nat.reduceDiv, Nat.reduceEqDiff, Nat.reduceBEq, Nat.reduceLeDiff, ↓reduceIte, reduceCtorEq, Int.reduceAdd, Int.reduceSub, Int.reduceLT, Int.reduceLE, Int.reduceBEq, Int.reduceEq, Int.reduceToNat]; rfl, by simp -implicitDefEqProofs (disch := (first | omega | (simp -implicitDefEqProofs only [szs, ne_eq] <;> omega) | fail)) only [go_sem, Nat.reduceAdd, Nat.reduceSub, Nat.reduceMul, Nat.reduceLT, Nat.reduceMod, Nat.reduceDiv, Nat.reduceEqDiff, Nat.reduceBEq, Nat.reduceLeDiff, ↓reduceIte, reduceCtorEq, Int.reduceAdd, Int.reduceSub, Int.reduceLT, Int.reduceLE, Int.reduceBEq, Int.reduceEq, Int.reduceToNat]; simp [sumTo], by simp [sumTo], by simp [sumTo], fun i hi => by omega⟩
  rintro k ⟨⟨n', tr⟩, mks⟩ gg ⟨hmk, hn', t0, t1, rfl, p, hpk, t6, t5, hs1, hs0, hq⟩
  simp only [Tm.get_mk] at hmk hn' t0 t1 t6 t5
  subst hmk hn'
  by_cases hp : p < m
  · have hcp := hc p hp
    have hps : o + p < c.size := by omega
    have hp0 : (0 : Int) ≤ (p : Int) := by omega
    have hp1 : (p : Int) < (m : Nat) := by omega
    by_cases h1 : g p < 0
    · simp -implicitDefEqProofs (disch := (first | omega | (simp -implicitDefEqProofs only [szs, ne_eq] <;> omega) | fail)) only [go_sem, Nat.reduceAdd, Nat.reduceSub, Nat.reduceMul, Nat.reduceLT, Nat.reduceMod, Nat.reduceDiv, Nat.reduceEqDiff, Nat.reduceBEq, Nat.reduceLeDiff, ↓reduceIte, reduceCtorEq, Int.reduceAdd, Int.reduceSub, Int.reduceLT, Int.reduceLE, Int.reduceBEq, Int.reduceEq, Int.reduceToNat, ir23_l0, t0, t1, t5, t6, ↓hlv, undefV, hp1, hp0, hb, hcp, hps, hRb, h1]
      exact .inl (goodN.bad hp (.inl h1))
    · by_cases h2 : g p > k0 - sumTo g p
      · simp -implicitDefEqProofs (disch := (first | omega | (simp -implicitDefEqProofs only [szs, ne_eq] <;> omega) | fail)) only [go_sem, Nat.reduceAdd, Nat.reduceSub, Nat.reduceMul, Nat.reduceLT, Nat.reduceMod, Nat.reduceDiv, Nat.reduceEqDiff, Nat.reduceBEq, Nat.reduceLeDiff, ↓reduceIte, reduceCtorEq, Int.reduceAdd, Int.reduceSub, Int.reduceLT, Int.reduceLE, Int.reduceBEq, Int.reduceEq, Int.reduceToNat, ir23_l0, t0, t1, t5, t6, ↓hlv, undefV, hp1, hp0, hb, hcp, hps, hRb, h1, h2]
        exact .inl (goodN.bad hp (.inr h2))
      · simp -implicitDefEqProofs (disch := (first | omega | (simp -implicitDefEqProofs only [szs, ne_eq] <;> omega) | fail)) only [go_sem, Nat.reduceAdd, Nat.reduceSub, Nat.reduceMul, Nat.reduceLT, Nat.reduceMod, Nat.reduceDiv, Nat.reduceEqDiff, Nat.reduceBEq, Nat.reduceLeDiff, ↓reduceIte, reduceCtorEq, Int.reduceAdd, Int.reduceSub, Int.reduceLT, Int.reduceLE, Int.reduceBEq, Int.reduceEq, Int.reduceToNat, ir23_l0, t0, t1, t5, t6, ↓hlv, undefV, hp1, hp0, hb, hcp, hps, hRb, h1, h2]
        refine ⟨k - 1, by omega, p + 1, by omega, by simp, by simp only [sumTo]; congr 1; omega, by simp only [sumTo]; omega, by simp only [sumTo]; omega, fun i hi => ?_⟩
        by_cases e : i = p
        · subst e; omega
        · exact hq i (by omega)
  · obtain rfl : p = m := by omega
    have hA := append_nilS (e := 3) (sz := 1) (bytes := 8) (cap := cap) (ex := ex) (h := gg.push (.cells (Blk.rep (k0 * 3) [V.int IntKind.i64 0, V.int IntKind.i64 0, V.slice none 0 0 true]) 83)) (b := b) (o := o) (m := p) (c := c) (ce := ce) (by have := Heap.lt_of_get hb; rw [w_push_ne (by omega)]; exact hb) (by omega) (by omega) (by omega) (by omega)
    have hgood : goodN (k0 : Nat) p g := ⟨by omega, by omega, by omega, by omega, hq, hs1⟩
    have h40 : 40 * k0 ≤ 281474976710656 := by omega
    simp -implicitDefEqProofs (disch := (first | omega | (simp -implicitDefEqProofs only [szs, ne_eq] <;> omega) | fail)) only [go_sem, Nat.reduceAdd, Nat.reduceSub, Nat.reduceMul, Nat.reduceLT, Nat.reduceMod, Nat.reduceDiv, Nat.reduceEqDiff, Nat.reduceBEq, Nat.reduceLeDiff, ↓reduceIte, reduceCtorEq, Int.reduceAdd, Int.reduceSub, Int.reduceLT, Int.reduceLE, Int.reduceBEq, Int.reduceEq, Int.reduceToNat, ir23_l0, t0, t1, t5, t6, ↓hlv, undefV, appendV_of ap_49, ↓hA, hRb, h40]
    rw [if_pos (by omega)]
    simp -implicitDefEqProofs (disch := (first | omega | (simp -implicitDefEqProofs only [szs, ne_eq] <;> omega) | fail)) only [go_sem, Nat.reduceAdd, Nat.reduceSub, Nat.reduceMul, Nat.reduceLT, Nat.reduceMod, Nat.reduceDiv, Nat.reduceEqDiff, Nat.reduceBEq, Nat.reduceLeDiff, ↓reduceIte, reduceCtorEq, Int.reduceAdd, Int.reduceSub, Int.reduceLT, Int.reduceLE, Int.reduceBEq, Int.reduceEq, Int.reduceToNat, t0, t1, t5, t6, ↓hlv, undefV, appendV_of ap_49, ↓hA, hRb]
    have hbl := Heap.lt_of_get hb
    refine ⟨?_, by omega, fun b' hb' => by rw [w_push_ne (by simp; omega), w_push_ne (by simp; omega), w_push_ne (by omega)], .inr ⟨hgood, gg.n + 1 + 1, ⟨gg.n, gg.n + 1, k0, p, true, false⟩, fun _ => nilV, rfl, ⟨⟨by simp; omega, by omega, Nat.le_refl _, by show gg.n ≤ gg.n + 1; omega⟩, by show 0 < k0; omega, ⟨_, w_push_eq (by simp) _, rfl, rfl, rfl⟩, ⟨_, by rw [w_push_ne (by simp; omega), w_push_ne (by simp), w_push_eq rfl], ⟨rfl, rfl, fun i hi => ?_, fun i hi => ?_, fun i hi => ?_⟩⟩, ⟨_, by rw [w_push_ne (by simp), w_push_eq (by simp)], ⟨?_, rfl, fun i hi => ?_⟩⟩, fun i hi => .inl ⟨rfl, rfl⟩, fun i j hi hj hne => .inl rfl⟩⟩⟩
    · simp only [List.not_mem_nil, or_false, false_or, and_false, false_and, false_implies, implies_true, not_false_eq_true, List.mem_singleton, List.mem_cons, and_true, true_and]
      all_goals (try and_intros)
      all_goals (intros; omega)
    · rw [rep_get, show i * 3 % [V.int IntKind.i64 0, V.int IntKind.i64 0, V.slice none 0 0 true].length = 0 by simp]; rfl
    · rw [rep_get, show (i * 3 + 1) % [V.int IntKind.i64 0, V.int IntKind.i64 0, V.slice none 0 0 true].length = 1 by simp]; rfl
    · rw [rep_get, show (i * 3 + 2) % [V.int IntKind.i64 0, V.int IntKind.i64 0, V.slice none 0 0 true].length = 2 by simp]; rfl
    · show p ≤ (Blk.of (c.gets o p)).size
      rw [w_of_size, Blk.length_gets]; omega
    · have hi : i < p := hi
      rw [of_gets_get hi]; exact hc i hi
/-- A frame is written anew. -/
theorem RPool.new_frame {h h' : Heap} {n0 rd : Nat} {L : RL} {S S' : PS} {bv : Nat → V} (hr : RPool h n0 rd L S bv) {i : Nat} (hi : i < S.n) (hn : h.n ≤ h'.n) {f F : Blk} (hf : h.get L.fb = some (.cells f 83)) (hF : h'.get L.fb = some (.cells F 83)) (sF : F.size = f.size) (rF : F.ro = f.ro) {nv : V} (g0 : F.get (i * 3) = .int .i64 (S'.ow i)) (g1 : F.get (i * 3 + 1) = .int .i64 (S'.ho i)) (g2 : F.get (i * 3 + 2) = nv) (g3 : ∀ y, y ≠ i * 3 → y ≠ i * 3 + 1 → y ≠ i * 3 + 2 → F.get y = f.get y) (hk : ∀ b, b < h.n → b ≠ L.fb → h'.get b = h.get b) (e1 : S'.n = S.n) (e2 : S'.na = S.na) (e3 : ∀ j, j ≠ i → S'.ow j = S.ow j) (e4 : ∀ j, j ≠ i → S'.ho j = S.ho j) (e5 : S'.qu = S.qu) (hoth : ∀ k j, k ≠ i → S'.byt k j = S.byt k j)
    (hnew : (nv = nilV ∧ S'.ho i = 0) ∨ ∃ (nb : Nat) (x : Bool) (c : Blk) (g : Nat → Int), nv = .slice (some (nb, 0)) 256 256 x ∧ h.n ≤ nb ∧ h'.get nb = some (.cells c 5) ∧ c.size = 256 ∧ c.ro = false ∧ (∀ j, j < 256 → c.get j = .int .u8 (g j)) ∧ (S'.ho i ≠ 0 → ∀ j, j < 256 → g j = S'.byt i j)) :
    RPool h' n0 rd L S' (fun j => if j = i then nv else bv j) := by
  obtain ⟨b1, b2, b3, b4, b5⟩ := hr.blocks
  have hlt := hr.lt
  obtain ⟨cp, p1, p2⟩ := hr.p
  obtain ⟨f', f1, ⟨fs, fr, fo, fh, fv⟩⟩ := hr.f
  obtain ⟨q, q1, q2⟩ := hr.q
  rw [hf] at f1
  cases f1
  refine ⟨⟨by omega, hr.lt.2⟩, by rw [e1]; exact hr.pos, ⟨cp, by rw [hk _ b1 b4]; exact p1, by rw [e1, e2]; exact p2⟩, ⟨F, hF, ⟨by rw [sF, e1]; exact fs, by rw [rF]; exact fr, fun j hj => ?_, fun j hj => ?_, fun j hj => ?_⟩⟩, ⟨q, by rw [hk _ b3 b5]; exact q1, by rw [e2, e5]; exact q2⟩, fun j hj => ?_, fun j k hj hk' hne => ?_⟩
  · rw [e1] at hj
    by_cases e : j = i
    · subst e; exact g0
    · rw [g3 _ (by omega) (by omega) (by omega), e3 j e]; exact fo j hj
  · rw [e1] at hj
    by_cases e : j = i
    · subst e; exact g1
    · rw [g3 _ (by omega) (by omega) (by omega), e4 j e]; exact fh j hj
  · rw [e1] at hj
    by_cases e : j = i
    · subst e; rw [g2]; simp
    · rw [g3 _ (by omega) (by omega) (by omega), fv j hj]; simp [e]
  · rw [e1] at hj
    by_cases e : j = i
    · subst e
      simp only [if_true]
      rcases hnew with h | ⟨nb, x, c, g, a1, a2, a3, a4, a5, a6, a7⟩
      · exact .inl h
      · exact .inr ⟨g, ⟨nb, x, c, a1, by omega, a3, a4, a5, a6⟩, a7⟩
    · simp only [if_neg e]
      rw [e4 j e]
      rcases hr.b j hj with h | ⟨g, ⟨b, x', cb, e1', e2', e3', e4'⟩, h2⟩
      · exact .inl h
      · refine .inr ⟨g, ⟨b, x', cb, e1', e2', ?_, e4'⟩, fun h0 k hk' => by rw [hoth j k e]; exact h2 h0 k hk'⟩
        rw [hk b (Heap.lt_of_get e3') (fun e' => by rw [e', hf] at e3'; cases e3')]; exact e3'
  · rw [e1] at hj hk'
    have hlow : ∀ j, j < S.n → bv j = nilV ∨ nv = nilV ∨ sblk (bv j) ≠ sblk nv := fun j hj => by
      rcases hr.b j hj with ⟨h1, _⟩ | ⟨g, ⟨b, x', cb, e1', e2', e3', _⟩, _⟩
      · exact .inl h1
      · rcases hnew with ⟨h, _⟩ | ⟨nb, x, c, g, a1, a2, _⟩
        · exact .inr (.inl h)
        · have := Heap.lt_of_get e3'
          exact .inr (.inr (by rw [e1', a1]; show b ≠ nb; omega))
    by_cases ej : j = i
    · have ek : k ≠ i := fun h => hne (by omega)
      simp only [if_pos ej, if_neg ek]
      rcases hlow k hk' with h | h | h
      · exact .inr (.inl h)
      · exact .inl h
      · exact .inr (.inr (Ne.symm h))
    · by_cases ek : k = i
      · simp only [if_neg ej, if_pos ek]
        rcases hlow j hj with h | h | h
        · exact .inl h
        · exact .inr (.inl h)
        · exact .inr (.inr h)
      · simp only [if_neg ej, if_neg ek]
        exact hr.dis j k hj hk' hne
/-- The first p frames are there. -/
def PS.upTo (S : PS) (p : Nat) : PS := { S with ow := fun x => if x < p then S.ow x else 0, ho := fun x => if x < p then S.ho x else 0 }
theorem WF.good {S : PS} (w : WF S) (hpos : 0 < S.n) (hna : 1 ≤ S.na ∧ S.na ≤ 8) : goodN S.n S.na S.qu := by
  refine ⟨by omega, by have := w.n; omega, hna.1, hna.2, fun i hi => ⟨?_, w.qu i hi⟩, w.sum⟩
  have h1 := w.le i hi
  rw [w.us i hi] at h1
  have := (cnt_in (fun j => decide (S.ho j ≠ 0 ∧ S.ow j = (i : Nat))) S.n).1
  omega
theorem BV.lt {h : Heap} {n0 : Nat} {v : V} {g : Nat → Int} (hv : BV h n0 v g) : sblk v < h.n := by
  obtain ⟨b, x, c, rfl, h1, h2, h3⟩ := hv
  exact Heap.lt_of_get h2
theorem append_nil0 (h : Heap) : appE 5 1 1 (.slice none 0 0 true) (.slice none 0 0 true) h = some ⟨.slice none 0 0 true, h, [], []⟩ := rfl
theorem set3 (F : Blk) (p : Nat) (x y z : V) : ∃ G, ((F.set (p * 3) x).set (p * 3 + 1) y).set (p * 3 + 1 + 1) z = G ∧ G.size = F.size ∧ G.ro = F.ro ∧ G.get (p * 3) = x ∧ G.get (p * 3 + 1) = y ∧ G.get (p * 3 + 2) = z ∧ ∀ a, a ≠ p * 3 → a ≠ p * 3 + 1 → a ≠ p * 3 + 2 → G.get a = F.get a :=
  ⟨_, rfl, by rw [Blk.size_set, Blk.size_set, Blk.size_set], by rw [Blk.ro_set, Blk.ro_set, Blk.ro_set], by rw [w_bset_ne (by omega) _, w_bset_ne (by omega) _, w_bset_eq rfl], by rw [w_bset_ne (by omega) _, w_bset_eq rfl], by rw [show p * 3 + 2 = p * 3 + 1 + 1 by omega, w_bset_eq rfl], fun a h1 h2 h3 => by rw [w_bset_ne (by omega) _, w_bset_ne h2 _, w_bset_ne h1 _]⟩
theorem upTo_ne (S : PS) {j p : Nat} (h : j ≠ p) (z : Nat → Int) : (if j < p + 1 then z j else 0) = if j < p then z j else 0 := by
  by_cases e : j < p
  · rw [if_pos e, if_pos (by omega)]
  · rw [if_neg e, if_neg (by omega)]
/-- A frame's cells in their own place. -/
theorem stG (h : Heap) (x y : Int) (v : V) : ∃ h2, ((h.push (O.cells (Blk.of [V.int IntKind.i64 0, V.int IntKind.i64 0, V.slice none 0 0 true]) 83)).set h.n
      (O.cells ((((Blk.of [V.int IntKind.i64 0, V.int IntKind.i64 0, V.slice none 0 0 true]).set 0 (V.int IntKind.i64 x)).set 1 (V.int IntKind.i64 y)).set 2 v) 83)) = h2 ∧ h2.n = h.n + 1 ∧
      (∃ s, h2.get h.n = some (.cells s 83) ∧ s.size = 3 ∧ s.ro = false ∧ s.get 0 = .int .i64 x ∧ s.get 1 = .int .i64 y ∧ s.get 2 = v) ∧ ∀ b, b < h.n → h2.get b = h.get b := by
  refine ⟨_, rfl, by simp, ⟨((((Blk.of [V.int IntKind.i64 0, V.int IntKind.i64 0, V.slice none 0 0 true]).set 0 (V.int IntKind.i64 x)).set 1 (V.int IntKind.i64 y)).set 2 v), by simp -implicitDefEqProofs (disch := (first | omega | (simp -implicitDefEqProofs only [szs, ne_eq] <;> omega) | fail)) only [go_sem, Nat.reduceAdd, Nat.reduceSub, Nat.reduceMul, Nat.reduceLT, Nat.reduceMod, Nat.reduceDiv, Nat.reduceEqDiff, Nat.reduceBEq, Nat.reduceLeDiff, ↓reduceIte, reduceCtorEq, Int.reduceAdd, Int.reduceSub, Int.reduceLT, Int.reduceLE, Int.reduceBEq, Int.reduceEq, Int.reduceToNat], rfl, rfl, ?_, ?_, ?_⟩, fun b hb => by simp -implicitDefEqProofs (disch := (first | omega | (simp -implicitDefEqProofs only [szs, ne_eq] <;> omega) | fail)) only [go_sem, Nat.reduceAdd, Nat.reduceSub, Nat.reduceMul, Nat.reduceLT, Nat.reduceMod, Nat.reduceDiv, Nat.reduceEqDiff, Nat.reduceBEq, Nat.reduceLeDiff, ↓reduceIte, reduceCtorEq, Int.reduceAdd, Int.reduceSub, Int.reduceLT, Int.reduceLE, Int.reduceBEq, Int.reduceEq, Int.reduceToNat]⟩ <;> simp -implicitDefEqProofs (disch := (first | omega | (simp -implicitDefEqProofs only [szs, ne_eq] <;> omega) | fail)) only [go_sem, Nat.reduceAdd, Nat.reduceSub, Nat.reduceMul, Nat.reduceLT, Nat.reduceMod, Nat.reduceDiv, Nat.reduceEqDiff, Nat.reduceBEq, Nat.reduceLeDiff, ↓reduceIte, reduceCtorEq, Int.reduceAdd, Int.reduceSub, Int.reduceLT, Int.reduceLE, Int.reduceBEq, Int.reduceEq, Int.reduceToNat]
set_option maxHeartbeats 4000000 in
theorem rclone_ok {h : Heap} {R W : Set'} {n0 rd : Nat} {L : RL} {S : PS} {bv : Nat → V} (hr : RPool h n0 rd L S bv) (w : WF S) (hna : 1 ≤ S.na ∧ S.na ≤ 8) (hR : ∀ b, R b) :
    SF Try.prog 26 [.ptr (some (rd, 0))] h R W fun v h' => ∃ rd' L' bv', v = .ptr (some (rd', 0)) ∧ h.n ≤ h'.n ∧ RPool h' h.n rd' L' S bv' ∧ ∀ b, b < h.n → h'.get b = h.get b := by
  have hgood := w.good hr.pos hna
  have hn := w.n
  have hposn := hr.pos
  obtain ⟨b1, b2, b3, b4, b5⟩ := hr.blocks
  obtain ⟨cp, p1, p2, p3, p4⟩ := hr.p
  obtain ⟨f, f1, ⟨fs, fr, fo, fh, fv⟩⟩ := hr.f
  obtain ⟨q, q1, ⟨qs, qr, qg⟩⟩ := hr.q
  have hR1 := hR rd
  have hR2 := hR L.fb
  have hints : IntsW h (.slice (some (L.qb, 0)) S.na L.qcap L.qex) S.na S.qu := ⟨by omega, .inr ⟨L.qb, 0, _, _, q, 3, rfl, q1, by omega, fun i hi => by rw [Nat.zero_add]; exact qg i hi⟩⟩
  refine SF.go hm Try.func26 ir26_eq ?_
  simp -implicitDefEqProofs (disch := (first | omega | (simp -implicitDefEqProofs only [szs, ne_eq] <;> omega) | fail)) only [go_sem, Nat.reduceAdd, Nat.reduceSub, Nat.reduceMul, Nat.reduceLT, Nat.reduceMod, Nat.reduceDiv, Nat.reduceEqDiff, Nat.reduceBEq, Nat.reduceLeDiff, ↓reduceIte, reduceCtorEq, Int.reduceAdd, Int.reduceSub, Int.reduceLT, Int.reduceLE, Int.reduceBEq, Int.reduceEq, Int.reduceToNat, ir26, p1, p2, p3, p4, hR1]
  refine GCallD.of (R' := fun _ => True) (W' := fun _ => False) (rnew_ok (n := S.n) hints (fun _ => trivial)) ?_
  rintro v h1 ⟨n1, k1, ⟨hb, _⟩ | ⟨_, rd', L', bv0, rfl, hr0⟩⟩
  · exact absurd hgood hb
  have hr0 : RPool h1 h.n rd' L' (PS.new S.n S.na S.qu) bv0 := hr0
  simp -implicitDefEqProofs (disch := (first | omega | (simp -implicitDefEqProofs only [szs, ne_eq] <;> omega) | fail)) only [go_sem, Nat.reduceAdd, Nat.reduceSub, Nat.reduceMul, Nat.reduceLT, Nat.reduceMod, Nat.reduceDiv, Nat.reduceEqDiff, Nat.reduceBEq, Nat.reduceLeDiff, ↓reduceIte, reduceCtorEq, Int.reduceAdd, Int.reduceSub, Int.reduceLT, Int.reduceLE, Int.reduceBEq, Int.reduceEq, Int.reduceToNat]
  refine ⟨⟨fun _ => .inr hR1, fun _ => .inr hR1, fun b _ _ => .inr (hR b), fun b _ h => h.elim⟩, ?_⟩
  refine GLoop.inv hm (fun k f' gg => f'.mks = [] ∧ f'.tm.n = 46 ∧ f'.tm.get 0 = some (.ptr (some (rd, 0))) ∧ f'.tm.get 3 = some (.ptr (some (rd', 0))) ∧ h.n ≤ gg.n ∧ (∀ b, b < h.n → gg.get b = h.get b) ∧ ∃ (p : Nat) (bv' : Nat → V), p + k = S.n ∧ f'.tm.get 4 = some (.int .i64 p) ∧ RPool gg h.n rd' L' (S.upTo p) bv') S.n ?_ ?_
  · refine ⟨rfl, rfl, by simp -implicitDefEqProofs (disch := (first | omega | (simp -implicitDefEqProofs only [szs, ne_eq] <;> omega) | fail)) only [go_sem, Nat.reduceAdd, Nat.reduceSub, Nat.reduceMul, Nat.reduceLT, Nat.reduceMod, Nat.reduceDiv, Nat.reduceEqDiff, Nat.reduceBEq, Nat.reduceLeDiff, ↓reduceIte, reduceCtorEq, Int.reduceAdd, Int.reduceSub, Int.reduceLT, Int.reduceLE, Int.reduceBEq, Int.reduceEq, Int.reduceToNat], by simp -implicitDefEqProofs (disch := (first | omega | (simp -implicitDefEqProofs only [szs, ne_eq] <;> omega) | fail)) only [go_sem, Nat.reduceAdd, Nat.reduceSub, Nat.reduceMul, Nat.reduceLT, Nat.reduceMod, Nat.reduceDiv, Nat.reduceEqDiff, Nat.reduceBEq, Nat.reduceLeDiff, ↓reduceIte, reduceCtorEq, Int.reduceAdd, Int.reduceSub, Int.reduceLT, Int.reduceLE, Int.reduceBEq, Int.reduceEq, Int.reduceToNat], n1, k1, 0, bv0, by omega, by simp -implicitDefEqProofs (disch := (first | omega | (simp -implicitDefEqProofs only [szs, ne_eq] <;> omega) | fail)) only [go_sem, Nat.reduceAdd, Nat.reduceSub, Nat.reduceMul, Nat.reduceLT, Nat.reduceMod, Nat.reduceDiv, Nat.reduceEqDiff, Nat.reduceBEq, Nat.reduceLeDiff, ↓reduceIte, reduceCtorEq, Int.reduceAdd, Int.reduceSub, Int.reduceLT, Int.reduceLE, Int.reduceBEq, Int.reduceEq, Int.reduceToNat]; rfl, hr0.congr rfl rfl (fun i _ => rfl) (fun i _ => rfl) (fun _ _ => rfl) (fun i hi h0 => absurd rfl h0)⟩
  rintro k ⟨⟨n', tr⟩, mks⟩ gg ⟨hmk, hn', t0, t3, gn, hold, p, bv', hpk, t4, hrg⟩
  simp only [Tm.get_mk] at hmk hn' t0 t3 t4
  subst hmk hn'
  have p1g := (hold rd b1).trans p1
  by_cases hp : p < S.n
  · obtain ⟨c1, c2, c3, c4, c5⟩ := hrg.blocks
    have hlt := hrg.lt
    obtain ⟨dp, d1, d2, d3, d4⟩ := hrg.p
    obtain ⟨F, e1, ⟨es, er, eo, eh, ev⟩⟩ := hrg.f
    replace d3 : dp.get 0 = .slice (some (L'.fb, 0)) S.n L'.fcap L'.fex := d3
    replace es : F.size = S.n * 3 := es
    have f1g := (hold L.fb b2).trans f1
    have ho := fo p hp
    have hh := fh p hp
    have hv := fv p hp
    have hs0 : p * 3 < f.size := by omega
    have hs1 : p * 3 + 1 < f.size := by omega
    have hs2 : p * 3 + 2 < f.size := by omega
    have hs2' : p * 3 + 1 + 1 < f.size := by omega
    have hv' : f.get (p * 3 + 1 + 1) = bv p := hv
    have es0 : p * 3 < F.size := by omega
    have es1 : p * 3 + 1 < F.size := by omega
    have es2 : p * 3 + 1 + 1 < F.size := by omega
    have hp0 : (0 : Int) ≤ (p : Int) := by omega
    have hp1 : (p : Int) < (S.n : Nat) := by omega
    have hRd := hR rd'
    have hRf := hR L'.fb
    have hRn := hR gg.n
    rcases hr.b p hp with ⟨h4, h5⟩ | ⟨g, ⟨b, x, cb, hbv, hb0, hb, hbs, hbr, hbg⟩, hg⟩
    · obtain ⟨g2, eg, ng, ⟨st, gs, ss, sr, s0, s1, s2⟩, kg⟩ := stG gg (S.ow p) (S.ho p) (.slice none 0 0 true)
      have hold2 : ∀ b, b < h.n → g2.get b = h.get b := fun b hb => by rw [kg b (by omega)]; exact hold b hb
      have d1g := (kg rd' c1).trans d1
      have e1g := (kg L'.fb c2).trans e1
      rw [h4, nilV] at hv hv'
      simp -implicitDefEqProofs (disch := (first | omega | (simp -implicitDefEqProofs only [szs, ne_eq] <;> omega) | fail)) only [go_sem, Nat.reduceAdd, Nat.reduceSub, Nat.reduceMul, Nat.reduceLT, Nat.reduceMod, Nat.reduceDiv, Nat.reduceEqDiff, Nat.reduceBEq, Nat.reduceLeDiff, ↓reduceIte, reduceCtorEq, Int.reduceAdd, Int.reduceSub, Int.reduceLT, Int.reduceLE, Int.reduceBEq, Int.reduceEq, Int.reduceToNat, ir26_l0, t0, t3, t4, p1g, p2, p3, hR1, hR2, hp0, hp1, f1g, ho, hh, hv, hv', hs0, hs1, hs2, hs2', eg, gs, ss, sr, s0, s1, s2, appendV_of ap_35, ↓append_nil0, d1g, d2, d3, e1g, er, es0, es1, es2]
      obtain ⟨G, eG, G1, G2, G3, G4, G5, G6⟩ := set3 F p (.int .i64 (S.ow p)) (.int .i64 (S.ho p)) (.slice none 0 0 true)
      rw [eG]
      have hold3 : ∀ b', b' < gg.n → b' ≠ L'.fb → ((g2.set gg.n (O.cells (st.set 2 (V.slice none 0 0 true)) 83)).set L'.fb (O.cells G 83)).get b' = gg.get b' := fun b' h1 h2 => by rw [w_set_ne (by simp; omega) h2, w_set_ne (by omega) (by omega)]; exact kg b' h1
      refine ⟨.inl gn, .inl gn, .inl gn, ⟨fun _ => .inl hlt.2.1, fun _ => .inl gn, fun _ => .inl hlt.2.2.1⟩, k - 1, by omega, by omega, fun b' hb' => by rw [hold3 b' (by omega) (by omega)]; exact hold b' hb', p + 1, _, by omega, by simp, hrg.new_frame (S' := S.upTo (p + 1)) hp (by simp; omega) e1 (w_set_eq (by simp; omega) rfl _) G1 G2 (by rw [G3]; simp [PS.upTo]) (by rw [G4]; simp [PS.upTo]) G5 G6 hold3 rfl rfl (fun j hj => upTo_ne S hj S.ow) (fun j hj => upTo_ne S hj S.ho) rfl (fun _ _ _ => rfl) (.inl ⟨rfl, by simp [PS.upTo, h5]⟩)⟩
    · obtain ⟨g2, eg, ng, ⟨st, gs, ss, sr, s0, s1, s2⟩, kg⟩ := stG gg (S.ow p) (S.ho p) (.slice (some (b, 0)) 256 256 x)
      have hold2 : ∀ b, b < h.n → g2.get b = h.get b := fun b hb => by rw [kg b (by omega)]; exact hold b hb
      have d1g := (kg rd' c1).trans d1
      have e1g := (kg L'.fb c2).trans e1
      have hbl := Heap.lt_of_get hb
      have hb2 := (hold2 b hbl).trans hb
      have hRb := hR b
      rw [hbv] at hv hv'
      have hA := append_nilS (e := 5) (sz := 1) (bytes := 1) (cap := 256) (ex := x) (h := g2) (o := 0) (m := 256) hb2 (by omega) (by omega) (by omega) (by omega)
      obtain ⟨B, eB⟩ : ∃ B, B = Blk.of (cb.gets 0 (256 * 1)) := ⟨_, rfl⟩
      rw [← eB] at hA
      have sB : B.size = 256 := by rw [eB, w_of_size, Blk.length_gets]
      have rB : B.ro = false := by rw [eB]; rfl
      have gB : ∀ y, y < 256 → B.get y = cb.get y := fun y hy => by rw [eB, of_gets_get (by omega), Nat.zero_add]
      simp -implicitDefEqProofs (disch := (first | omega | (simp -implicitDefEqProofs only [szs, ne_eq] <;> omega) | fail)) only [go_sem, Nat.reduceAdd, Nat.reduceSub, Nat.reduceMul, Nat.reduceLT, Nat.reduceMod, Nat.reduceDiv, Nat.reduceEqDiff, Nat.reduceBEq, Nat.reduceLeDiff, ↓reduceIte, reduceCtorEq, Int.reduceAdd, Int.reduceSub, Int.reduceLT, Int.reduceLE, Int.reduceBEq, Int.reduceEq, Int.reduceToNat, ir26_l0, t0, t3, t4, p1g, p2, p3, hR1, hR2, hp0, hp1, f1g, ho, hh, hv, hv', hs0, hs1, hs2, hs2', eg, gs, ss, sr, s0, s1, s2, appendV_of ap_35, ↓hA, d1g, d2, d3, e1g, er, es0, es1, es2, hRb]
      obtain ⟨G, eG, G1, G2, G3, G4, G5, G6⟩ := set3 F p (.int .i64 (S.ow p)) (.int .i64 (S.ho p)) (.slice (some (g2.n, 0)) 256 256 false)
      rw [eG]
      have hold3 : ∀ b', b' < gg.n → b' ≠ L'.fb → (((g2.push (O.cells B 5)).set gg.n (O.cells (st.set 2 (V.slice (some (g2.n, 0)) 256 256 false)) 83)).set L'.fb (O.cells G 83)).get b' = gg.get b' := fun b' h1 h2 => by rw [w_set_ne (by simp; omega) h2, w_set_ne (by simp; omega) (by omega), w_push_ne (by omega)]; exact kg b' h1
      refine ⟨.inl gn, .inl gn, .inl gn, ⟨fun _ => .inl hlt.2.1, fun _ => .inl gn, fun _ => .inl hlt.2.2.1⟩, k - 1, by omega, by omega, fun b' hb' => by rw [hold3 b' (by omega) (by omega)]; exact hold b' hb', p + 1, _, by omega, by simp, hrg.new_frame (S' := S.upTo (p + 1)) hp (by simp; omega) e1 (w_set_eq (by simp; omega) rfl _) G1 G2 (by rw [G3]; simp [PS.upTo]) (by rw [G4]; simp [PS.upTo]) G5 G6 hold3 rfl rfl (fun j hj => upTo_ne S hj S.ow) (fun j hj => upTo_ne S hj S.ho) rfl (fun _ _ _ => rfl) (.inr ⟨g2.n, false, B, g, rfl, by omega, by rw [w_set_ne (by simp; omega) (by omega), w_set_ne (by simp; omega) (by omega), w_push_eq rfl], sB, rB, fun y hy => by rw [gB y hy]; exact hbg y hy, fun h0 => hg (by simpa [PS.upTo] using h0)⟩)⟩
  · obtain rfl : p = S.n := by omega
    simp -implicitDefEqProofs (disch := (first | omega | (simp -implicitDefEqProofs only [szs, ne_eq] <;> omega) | fail)) only [go_sem, Nat.reduceAdd, Nat.reduceSub, Nat.reduceMul, Nat.reduceLT, Nat.reduceMod, Nat.reduceDiv, Nat.reduceEqDiff, Nat.reduceBEq, Nat.reduceLeDiff, ↓reduceIte, reduceCtorEq, Int.reduceAdd, Int.reduceSub, Int.reduceLT, Int.reduceLE, Int.reduceBEq, Int.reduceEq, Int.reduceToNat, ir26_l0, t0, t3, t4, p1g, p2, p3, hR1]
    exact ⟨rd', L', bv', rfl, gn, hrg.congr rfl rfl (fun i hi => by simp [PS.upTo, show i < S.n from hi]) (fun i hi => by simp [PS.upTo, show i < S.n from hi]) (fun _ _ => rfl) (fun _ _ _ _ _ => rfl), hold⟩
end Go.Proofs.Ytfgdpgagcnelpaa
