/- The log: halves, sectors, which head counts. -/
import Derived.Test.YtakgjjbmniilhaaF
set_option linter.unusedVariables false
set_option linter.unusedSimpArgs false
set_option linter.unusedSimpArgs false
set_option maxRecDepth 100000
set_option linter.unusedVariables false
set_option linter.unusedSimpArgs false
namespace Go.Proofs.Ytakgjjbmniilhaa
open Go Go.Vm
attribute [-go_sem] sz_101
variable {h g : Heap} {R W M : Set'} {bd lp fr ct : Nat} {D : DS}
def LogC (h : Heap) (lp bd fr ct : Nat) : Prop := ∃ c, h.get lp = some (.cells c 47) ∧ c.size = 13 ∧ c.get 0 = .ptr (some (bd, 0)) ∧ c.get 1 = .int .i64 (fr : Int) ∧ c.get 2 = .int .i64 (ct : Int)
theorem LogC.old (hl : LogC h lp bd fr ct) (hk : ∀ k, k < h.n → g.get k = h.get k) : LogC g lp bd fr ct := by
  obtain ⟨c, h1, h2⟩ := hl
  exact ⟨c, (hk _ (Heap.lt_of_get h1)).trans h1, h2⟩
theorem bt_86 (a b : Int) : builtV Try.prog 86 [(0, .int .i64 a), (1, .int .i64 b)] = some [.int .i64 a, .int .i64 b] := by kernel_rfl
theorem halves_ok (hl : LogC h lp bd fr ct) (hc : 2 ≤ ct ∧ ct ≤ 4096) (hf : fr ≤ 4096) (hR : ∀ b, R b) : SF Try.prog 40 [.ptr (some (lp, 0))] h R W fun r g => r = .tuple [.agg [.int .i64 ((fr + 2 : Nat) : Int), .int .i64 ((fr + 2 + (ct - 2) / 2 : Nat) : Int)], .int .i64 (((ct - 2) / 2 : Nat) : Int)] ∧ h.n ≤ g.n ∧ ∀ k, k < h.n → g.get k = h.get k := by
  obtain ⟨c, h1, h2, c0, c1, c2⟩ := hl
  have hRl := hR lp
  have hlt := Heap.lt_of_get h1
  have e1 : ((ct : Int) - 2).tdiv 2 = (((ct - 2) / 2 : Nat) : Int) := by
    rw [show (ct : Int) - 2 = ((ct - 2 : Nat) : Int) by omega]; rfl
  have e2 : (fr : Int) + 2 = ((fr + 2 : Nat) : Int) := by omega
  have e3 : ((fr + 2 : Nat) : Int) + (((ct - 2) / 2 : Nat) : Int) = ((fr + 2 + (ct - 2) / 2 : Nat) : Int) := by omega
  refine SF.go hm Try.func40 ir40_eq ?_
  simp -implicitDefEqProofs (disch := (first | omega | (simp -implicitDefEqProofs only [szs, ne_eq] <;> omega) | fail)) only [go_sem, seval, ↓reduceIte, reduceCtorEq, ir40, undefV, h1, h2, c0, c1, c2, hRl, e1, e2, e3, bt_86]
  exact ⟨by (try simp only [List.not_mem_nil, or_false, false_or, and_false, false_and, false_implies, implies_true, not_false_eq_true, List.mem_singleton, List.mem_cons, and_true, true_and, forall_const]; try and_intros; all_goals (try trivial); all_goals (intro b hb; first | omega | (intro hc; first | omega | (rcases hb with hb | hb <;> first | omega)))), fun k hk => by rw [w_set_ne (by simp) (by omega), w_push_ne (by omega)]⟩
def secsN (n : Nat) : Nat := (n + 119) / 120
theorem sectors_ok {n : Nat} (hn : n ≤ 1000000000) : SF Try.prog 69 [.int .i64 (n : Int)] h R W fun r g => r = .int .i64 (secsN n : Nat) ∧ g = h := by
  have e1 : ((n : Int) + 119).tdiv 120 = ((secsN n : Nat) : Int) := by
    rw [show (n : Int) + 119 = ((n + 119 : Nat) : Int) by omega]; rfl
  have e2 : (n : Int) + 120 - 1 = (n : Int) + 119 := by omega
  refine SF.go hm Try.func69 ir69_eq ?_
  have e3 : IntKind.i64.wrap ((secsN n : Nat) : Int) = ((secsN n : Nat) : Int) := IntWalk.i64_in _ (by unfold secsN; omega)
  simp -implicitDefEqProofs (disch := (first | omega | (simp -implicitDefEqProofs only [szs, ne_eq] <;> omega) | fail)) only [go_sem, seval, ↓reduceIte, reduceCtorEq, ir69, e2, e1, e3]
noncomputable def whichI (n : Nat) (f : Nat → List V) : Nat → Option Hd
  | 0 => some h00
  | i + 1 => (whichI n f i).bind (whichS n i (f i))
theorem whichI_none {n : Nat} {f : Nat → List V} {i : Nat} (h : whichI n f i = none) : ∀ k, whichI n f (i + k) = none
  | 0 => h
  | k + 1 => by rw [← Nat.add_assoc, whichI, whichI_none h k]; rfl
theorem whichI_2 (n : Nat) (f : Nat → List V) : whichI n f 2 = whichA n (f 0) (f 1) := rfl
theorem zB_pad : padB [] = zB 128 := rfl
structure WhAt (h0 g : Heap) (ob zb : Nat) (H : Hd) : Prop where
  n : h0.n ≤ g.n
  k : ∀ k, k < h0.n → k ≠ ob → k ≠ zb → g.get k = h0.get k
  o : ∃ c, g.get ob = some (.cells c 44) ∧ c.size = 5 ∧ c.ro = false ∧ c.gets 0 5 = H.v
  z : ∃ c, g.get zb = some (.cells c 44) ∧ c.size = 5 ∧ c.ro = false
set_option maxHeartbeats 8000000 in
theorem which_loop {Q : Ex → Fr → Heap → Prop} {t : List It} {g0 : Heap} {ob zb : Nat} {tr : Tr V} (hx : DkX g0 M bd D) (hl : LogC g0 lp bd fr ct) (hc : 16 ≤ ct ∧ fr + ct ≤ D.n) (hR : ∀ b, R b) (hWo : W ob) (hWz : W zb) (hW : ∀ b, g0.n ≤ b → W b) (hob : ob < g0.n ∧ zb < g0.n ∧ ob ≠ zb) (hM : ∀ k, M k ∨ k = lp → k ≠ ob ∧ k ≠ zb) 
    (t0 : tr.get 0 = some (.ptr (some (lp, 0)))) (t2 : tr.get 2 = some (.ptr (some (zb, 0)))) (t4 : tr.get 4 = some (.ptr (some (ob, 0)))) (t6 : tr.get 6 = some (.int .i64 (((ct - 2) / 2 : Nat) : Int))) (t18 : tr.get 18 = some (.int .i64 0))
    (hs : WhAt g0 g0 ob zb h00)
    (hk : ∀ tr g H, whichI ((ct - 2) / 2) (fun i => D.seen (fr + i)) 2 = some H → H.Lt → tr.get 2 = some (.ptr (some (zb, 0))) → tr.get 4 = some (.ptr (some (ob, 0))) → WhAt g0 g ob zb H → resume (Try.prog : MP) R W none Q t (.exit 0) ⟨⟨85, tr⟩, []⟩ g)
    (hno : ∀ tr g, whichI ((ct - 2) / 2) (fun i => D.seen (fr + i)) 2 = none → tr.get 2 = some (.ptr (some (zb, 0))) → tr.get 3 = some (.bool false) → (∃ H, WhAt g0 g ob zb H) → (∃ c, g.get zb = some (.cells c 44) ∧ c.size = 5 ∧ c.gets 0 5 = Hd.zero.v) → Q .ret ⟨⟨85, tr⟩, []⟩ g) : GLoop (Try.prog : MP) R W none Q ir34_l0 t ⟨⟨85, tr⟩, []⟩ g0 := by
  have hpos := hx.pos
  refine GLoop.inv hm (fun k f g => f.mks = [] ∧ f.tm.n = 85 ∧ f.tm.get 0 = some (.ptr (some (lp, 0))) ∧ f.tm.get 2 = some (.ptr (some (zb, 0))) ∧ f.tm.get 4 = some (.ptr (some (ob, 0))) ∧ f.tm.get 6 = some (.int .i64 (((ct - 2) / 2 : Nat) : Int)) ∧ ∃ (i : Nat) (H : Hd), i + k = 2 ∧ f.tm.get 18 = some (.int .i64 (i : Int)) ∧ H.Lt ∧ whichI ((ct - 2) / 2) (fun i => D.seen (fr + i)) i = some H ∧ WhAt g0 g ob zb H) 2 ?_ ?_
  · exact ⟨rfl, rfl, t0, t2, t4, t6, 0, h00, rfl, t18, ⟨by decide, by decide, by decide, by decide, by decide⟩, rfl, hs⟩
  clear t0 t2 t4 t6 t18 hs
  clear tr
  rintro k ⟨⟨n', tr⟩, mks⟩ g ⟨hmk, hn', t0, t2, t4, t6, i, H, hik, t18, hLt, hwi, hs⟩
  simp only [Tm.get_mk] at hmk hn' t0 t2 t4 t6 t18
  subst hmk hn'
  by_cases hi : i < 2
  rotate_left
  · have hc2 : ¬ (i : Int) < 2 := by omega
    obtain rfl : i = 2 := by omega
    simp -implicitDefEqProofs (disch := (first | omega | (simp -implicitDefEqProofs only [szs, ne_eq] <;> omega) | fail)) only [go_sem, seval, ↓reduceIte, reduceCtorEq, ir34_l0, undefV, t0, t2, t4, t6, t18, hc2]
    exact hk _ _ H hwi hLt (by simp -implicitDefEqProofs (disch := (first | omega | (simp -implicitDefEqProofs only [szs, ne_eq] <;> omega) | fail)) only [go_sem, seval, ↓reduceIte, reduceCtorEq, t2]) (by simp -implicitDefEqProofs (disch := (first | omega | (simp -implicitDefEqProofs only [szs, ne_eq] <;> omega) | fail)) only [go_sem, seval, ↓reduceIte, reduceCtorEq, t4]) hs
  have hc2 : (i : Int) < 2 := by omega
  obtain ⟨gn, gk, ⟨co, o1, o2, o3, o4⟩, ⟨cz, z1, z2, z3⟩⟩ := hs
  have hxg : DkX g M bd D := hx.same gn fun k h1 => gk k (hx.lt k h1) (hM k (.inl h1)).1 (hM k (.inl h1)).2
  obtain ⟨cl, l1, l2, l3, l4, l5⟩ := hl
  have l1g := (gk lp (Heap.lt_of_get l1) (hM lp (.inr rfl)).1 (hM lp (.inr rfl)).2).trans l1
  have hRl := hR lp
  have e1 : (fr : Int) + (i : Int) = ((fr + i : Nat) : Int) := by omega
  simp -implicitDefEqProofs (disch := (first | omega | (simp -implicitDefEqProofs only [szs, ne_eq] <;> omega) | fail)) only [go_sem, seval, ↓reduceIte, reduceCtorEq, ir34_l0, undefV, t0, t2, t4, t6, t18, hc2, l1g, l2, l3, l4, hRl, e1]
  refine GCallD.of (SF.foot (read_dk (R := allR) (W := noW) hxg (fun _ => trivial) (s := fr + i) (by omega)) (fun _ h => h) (fun _ h => h)) ?_
  rintro r g1 ⟨b, rfl, hb, n1, k1⟩
  have hlen := (hx.sec (s := fr + i) (by omega)).1
  have hby := (hx.sec (s := fr + i) (by omega)).2
  simp -implicitDefEqProofs (disch := (first | omega | (simp -implicitDefEqProofs only [szs, ne_eq] <;> omega) | fail)) only [go_sem, seval, ↓reduceIte, reduceCtorEq, undefV, t0, t2, t4, t6, t18]
  refine ⟨⟨fun _ => hR _, fun _ => hR _, fun b _ _ => hR b, fun b _ h => h.elim⟩, ?_⟩
  refine GCall.of (SF.foot (sector_ok (R := R) (W := noW) (h := g1) (S := allR) (v := .slice none 0 0 true) (l := []) (.inl ⟨rfl, .inl rfl⟩) hR (by simp) Byt.nil) (fun _ h => h) (fun _ h => h.elim)) ?_
  rintro r g2 ⟨ho2, n2, k2⟩
  rw [zB_pad] at ho2
  simp -implicitDefEqProofs (disch := (first | omega | (simp -implicitDefEqProofs only [szs, ne_eq] <;> omega) | fail)) only [go_sem, seval, ↓reduceIte, reduceCtorEq, undefV, t0, t2, t4, t6, t18]
  refine GCall.of (equal_ok (hb.old k2) ho2.lr hR hby (byt_zB _)) ?_
  rintro r g3 ⟨rfl, rfl⟩
  have kk : ∀ k, k < g.n → g3.get k = g.get k := fun k hk => by rw [k2 k (by omega), k1 k hk]
  have hs3 : WhAt g0 g3 ob zb H := ⟨by omega, fun k q1 q2 q3 => by rw [kk k (by omega)]; exact gk k q1 q2 q3, ⟨co, (kk _ (Heap.lt_of_get o1)).trans o1, o2, o3, o4⟩, ⟨cz, (kk _ (Heap.lt_of_get z1)).trans z1, z2, z3⟩⟩
  have hwn : whichI ((ct - 2) / 2) (fun i => D.seen (fr + i)) (i + 1) = whichS ((ct - 2) / 2) i (D.seen (fr + i)) H := by
    rw [whichI, hwi]; rfl
  by_cases hzero : D.seen (fr + i) = zB 128
  · have hsb : sameB (D.seen (fr + i)) (zB 128) = true := (sameB_iff hby (byt_zB _)).2 hzero
    have hw1 : whichI ((ct - 2) / 2) (fun i => D.seen (fr + i)) (i + 1) = some H := by rw [hwn]; exact if_pos hzero
    simp -implicitDefEqProofs (disch := (first | omega | (simp -implicitDefEqProofs only [szs, ne_eq] <;> omega) | fail)) only [go_sem, seval, ↓reduceIte, reduceCtorEq, undefV, t0, t2, t4, t6, t18, hsb]
    exact ⟨k - 1, by omega, i + 1, H, by omega, rfl, hLt, hw1, hs3⟩
  have hsb : sameB (D.seen (fr + i)) (zB 128) = false := by
    rw [Bool.eq_false_iff]; exact fun h => hzero ((sameB_iff hby (byt_zB _)).1 h)
  simp -implicitDefEqProofs (disch := (first | omega | (simp -implicitDefEqProofs only [szs, ne_eq] <;> omega) | fail)) only [go_sem, seval, ↓reduceIte, reduceCtorEq, undefV, t0, t2, t4, t6, t18, hsb]
  refine GCall.of (SF.foot (take_ok (R := R) (W := noW) (hb.old k2) (by omega) hby hR) (fun _ h => h) (fun _ h => h.elim)) ?_
  rintro r g4 ⟨H', hLt', rfl, hHH, n4, k4⟩
  have hHv : H'.v = [.int .u64 (H'.ep : Int), .int .u64 (H'.si : Int), .int .u64 (H'.ha : Int), .int .u64 (H'.sz : Int), .int .u64 (H'.fi : Int)] := rfl
  rw [hHv]
  have hWn := hW g4.n (by omega)
  have z1' := (k4 zb (by omega)).trans ((kk _ (Heap.lt_of_get z1)).trans z1)
  have o1' := (k4 ob (by omega)).trans ((kk _ (Heap.lt_of_get o1)).trans o1)
  have hl4 : zb < g4.n := by omega
  have hl5 : ob < g4.n := by omega
  have gk4 : ∀ k, k < g0.n → k ≠ ob → k ≠ zb → g4.get k = g0.get k := fun k q1 q2 q3 => by rw [k4 k (by omega), hs3.k k q1 q2 q3]
  have hm2 : (H'.ep : Int).tmod 2 = ((H'.ep % 2 : Nat) : Int) := rfl
  have hw3 : IntKind.u64.wrap (i : Int) = (i : Int) := wrap64 (by omega)
  have hw4 : IntKind.u64.wrap ((((ct - 2) / 2 : Nat) : Int) * 120) = (((ct - 2) / 2 * 120 : Nat) : Int) := by
    rw [show (((ct - 2) / 2 : Nat) : Int) * 120 = (((ct - 2) / 2 * 120 : Nat) : Int) by omega]; exact wrap64 (by omega)
  have hw5 : IntKind.u64.wrap (((H'.ep % 2 : Nat) : Int)) = ((H'.ep % 2 : Nat) : Int) := wrap64 (by omega)
  have bad : whichS ((ct - 2) / 2) i (D.seen (fr + i)) H = none → ∀ tr g', tr.get 2 = some (.ptr (some (zb, 0))) → tr.get 3 = some (.bool false) → g4.n ≤ g'.n → (∀ k, k < g4.n → k ≠ zb → g'.get k = g4.get k) → (∃ c, g'.get zb = some (.cells c 44) ∧ c.size = 5 ∧ c.ro = false ∧ c.gets 0 5 = Hd.zero.v) → Q .ret ⟨⟨85, tr⟩, []⟩ g' := fun hn tr g' u2 u3 gn' gk' ⟨c, c1, c2, c3, c4⟩ => by
    refine hno tr g' ?_ u2 u3 ⟨H, by omega, fun k q1 q2 q3 => by rw [gk' k (by omega) q3]; exact gk4 k q1 q2 q3, ⟨co, by rw [gk' ob hl5 hob.2.2]; exact o1', o2, o3, o4⟩, ⟨c, c1, c2, c3⟩⟩ ⟨c, c1, c2, c4⟩
    have := whichI_none (hwn.trans hn) (2 - (i + 1))
    rwa [show i + 1 + (2 - (i + 1)) = 2 by omega] at this
  have hRn := hR g4.n
  cases hh : headA (D.seen (fr + i)) with
  | none =>
    have hs0 : (none : Option Hd).isSome = false := rfl
    have hn : whichS ((ct - 2) / 2) i (D.seen (fr + i)) H = none := by unfold whichS; rw [if_neg hzero, hh]
    rw [hs0]
    simp -implicitDefEqProofs (disch := (first | omega | (simp -implicitDefEqProofs only [szs, ne_eq] <;> omega) | fail)) only [go_sem, seval, ↓reduceIte, reduceCtorEq, undefV, t0, t2, t4, t6, t18, z1', z2, z3, hWz, hWn, hRn, hw3, hw4, hm2, ]
    refine bad hn _ _ (by simp -implicitDefEqProofs (disch := (first | omega | (simp -implicitDefEqProofs only [szs, ne_eq] <;> omega) | fail)) only [go_sem, seval, ↓reduceIte, reduceCtorEq, t2]) (by simp -implicitDefEqProofs (disch := (first | omega | (simp -implicitDefEqProofs only [szs, ne_eq] <;> omega) | fail)) only [go_sem, seval, ↓reduceIte, reduceCtorEq]) (by simp only [Heap.n_set, Heap.n_push]; omega) (fun k q1 q2 => by rw [w_set_ne (by simp only [Heap.n_set, Heap.n_push]; omega) q2, w_set_ne (by simp) (by omega), w_push_ne (by omega)]) ⟨_, w_set_eq (by simp only [Heap.n_set, Heap.n_push]; omega) rfl _, by simp only [Blk.size_set]; exact z2, by simp only [Blk.ro_set]; exact z3, gets5 fun j hj => ?_⟩
    simp only [Blk.get_set]
    have hh : j = 0 ∨ j = 1 ∨ j = 2 ∨ j = 3 ∨ j = 4 := by omega
    rcases hh with rfl | rfl | rfl | rfl | rfl <;> rfl
  | some H2 =>
    obtain rfl := hHH H2 hh
    have hs1 : (some H2).isSome = true := rfl
    rw [hs1]
    have hnn : ¬ mayH ((ct - 2) / 2) i H2 → whichS ((ct - 2) / 2) i (D.seen (fr + i)) H = none := fun hm => by unfold whichS; rw [if_neg hzero, hh]; exact if_neg hm
    by_cases m1 : H2.ep % 2 = i
    rotate_left
    · have i1 : ¬ ((H2.ep % 2 : Nat) : Int) = (i : Int) := by omega
      simp -implicitDefEqProofs (disch := (first | omega | (simp -implicitDefEqProofs only [szs, ne_eq] <;> omega) | fail)) only [go_sem, seval, ↓reduceIte, reduceCtorEq, undefV, t0, t2, t4, t6, t18, z1', z2, z3, hWz, hWn, hRn, hw3, hw4, hm2, i1]
      refine bad (hnn fun h => m1 h.2.1) _ _ (by simp -implicitDefEqProofs (disch := (first | omega | (simp -implicitDefEqProofs only [szs, ne_eq] <;> omega) | fail)) only [go_sem, seval, ↓reduceIte, reduceCtorEq, t2]) (by simp -implicitDefEqProofs (disch := (first | omega | (simp -implicitDefEqProofs only [szs, ne_eq] <;> omega) | fail)) only [go_sem, seval, ↓reduceIte, reduceCtorEq]) (by simp only [Heap.n_set, Heap.n_push]; omega) (fun k q1 q2 => by rw [w_set_ne (by simp only [Heap.n_set, Heap.n_push]; omega) q2, w_set_ne (by simp) (by omega), w_push_ne (by omega)]) ⟨_, w_set_eq (by simp only [Heap.n_set, Heap.n_push]; omega) rfl _, by simp only [Blk.size_set]; exact z2, by simp only [Blk.ro_set]; exact z3, gets5 fun j hj => ?_⟩
      simp only [Blk.get_set]
      have hh : j = 0 ∨ j = 1 ∨ j = 2 ∨ j = 3 ∨ j = 4 := by omega
      rcases hh with rfl | rfl | rfl | rfl | rfl <;> rfl
    have i1 : ((H2.ep % 2 : Nat) : Int) = (i : Int) := by omega
    by_cases m2 : H2.ep ≠ 0
    rotate_left
    · have i2 : ((H2.ep : Int) == 0) = true := by rw [beq_iff_eq]; omega
      simp -implicitDefEqProofs (disch := (first | omega | (simp -implicitDefEqProofs only [szs, ne_eq] <;> omega) | fail)) only [go_sem, seval, ↓reduceIte, reduceCtorEq, undefV, t0, t2, t4, t6, t18, z1', z2, z3, hWz, hWn, hRn, hw3, hw4, hm2, i1, i2]
      refine bad (hnn fun h => m2 h.1) _ _ (by simp -implicitDefEqProofs (disch := (first | omega | (simp -implicitDefEqProofs only [szs, ne_eq] <;> omega) | fail)) only [go_sem, seval, ↓reduceIte, reduceCtorEq, t2]) (by simp -implicitDefEqProofs (disch := (first | omega | (simp -implicitDefEqProofs only [szs, ne_eq] <;> omega) | fail)) only [go_sem, seval, ↓reduceIte, reduceCtorEq]) (by simp only [Heap.n_set, Heap.n_push]; omega) (fun k q1 q2 => by rw [w_set_ne (by simp only [Heap.n_set, Heap.n_push]; omega) q2, w_set_ne (by simp) (by omega), w_push_ne (by omega)]) ⟨_, w_set_eq (by simp only [Heap.n_set, Heap.n_push]; omega) rfl _, by simp only [Blk.size_set]; exact z2, by simp only [Blk.ro_set]; exact z3, gets5 fun j hj => ?_⟩
      simp only [Blk.get_set]
      have hh : j = 0 ∨ j = 1 ∨ j = 2 ∨ j = 3 ∨ j = 4 := by omega
      rcases hh with rfl | rfl | rfl | rfl | rfl <;> rfl
    have i2 : ¬ (H2.ep : Int) = 0 := by omega
    by_cases m3 : H2.sz ≤ (ct - 2) / 2 * 120
    rotate_left
    · have i3 : (((ct - 2) / 2 * 120 : Nat) : Int) < (H2.sz : Int) := by omega
      simp -implicitDefEqProofs (disch := (first | omega | (simp -implicitDefEqProofs only [szs, ne_eq] <;> omega) | fail)) only [go_sem, seval, ↓reduceIte, reduceCtorEq, undefV, t0, t2, t4, t6, t18, z1', z2, z3, hWz, hWn, hRn, hw3, hw4, hm2, i1, i2, i3]
      refine bad (hnn fun h => m3 h.2.2.2.2) _ _ (by simp -implicitDefEqProofs (disch := (first | omega | (simp -implicitDefEqProofs only [szs, ne_eq] <;> omega) | fail)) only [go_sem, seval, ↓reduceIte, reduceCtorEq, t2]) (by simp -implicitDefEqProofs (disch := (first | omega | (simp -implicitDefEqProofs only [szs, ne_eq] <;> omega) | fail)) only [go_sem, seval, ↓reduceIte, reduceCtorEq]) (by simp only [Heap.n_set, Heap.n_push]; omega) (fun k q1 q2 => by rw [w_set_ne (by simp only [Heap.n_set, Heap.n_push]; omega) q2, w_set_ne (by simp) (by omega), w_push_ne (by omega)]) ⟨_, w_set_eq (by simp only [Heap.n_set, Heap.n_push]; omega) rfl _, by simp only [Blk.size_set]; exact z2, by simp only [Blk.ro_set]; exact z3, gets5 fun j hj => ?_⟩
      simp only [Blk.get_set]
      have hh : j = 0 ∨ j = 1 ∨ j = 2 ∨ j = 3 ∨ j = 4 := by omega
      rcases hh with rfl | rfl | rfl | rfl | rfl <;> rfl
    have i3 : ¬ (((ct - 2) / 2 * 120 : Nat) : Int) < (H2.sz : Int) := by omega
    by_cases m4 : H2.ep ≤ 4611686018427387904
    rotate_left
    · have i4 : 4611686018427387904 < (H2.ep : Int) := by omega
      simp -implicitDefEqProofs (disch := (first | omega | (simp -implicitDefEqProofs only [szs, ne_eq] <;> omega) | fail)) only [go_sem, seval, ↓reduceIte, reduceCtorEq, undefV, t0, t2, t4, t6, t18, z1', z2, z3, hWz, hWn, hRn, hw3, hw4, hm2, i1, i2, i3, i4]
      refine bad (hnn fun h => m4 h.2.2.1) _ _ (by simp -implicitDefEqProofs (disch := (first | omega | (simp -implicitDefEqProofs only [szs, ne_eq] <;> omega) | fail)) only [go_sem, seval, ↓reduceIte, reduceCtorEq, t2]) (by simp -implicitDefEqProofs (disch := (first | omega | (simp -implicitDefEqProofs only [szs, ne_eq] <;> omega) | fail)) only [go_sem, seval, ↓reduceIte, reduceCtorEq]) (by simp only [Heap.n_set, Heap.n_push]; omega) (fun k q1 q2 => by rw [w_set_ne (by simp only [Heap.n_set, Heap.n_push]; omega) q2, w_set_ne (by simp) (by omega), w_push_ne (by omega)]) ⟨_, w_set_eq (by simp only [Heap.n_set, Heap.n_push]; omega) rfl _, by simp only [Blk.size_set]; exact z2, by simp only [Blk.ro_set]; exact z3, gets5 fun j hj => ?_⟩
      simp only [Blk.get_set]
      have hh : j = 0 ∨ j = 1 ∨ j = 2 ∨ j = 3 ∨ j = 4 := by omega
      rcases hh with rfl | rfl | rfl | rfl | rfl <;> rfl
    have i4 : ¬ 4611686018427387904 < (H2.ep : Int) := by omega
    by_cases m5 : H2.fi ≤ 4611686018427387904
    rotate_left
    · have i5 : 4611686018427387904 < (H2.fi : Int) := by omega
      simp -implicitDefEqProofs (disch := (first | omega | (simp -implicitDefEqProofs only [szs, ne_eq] <;> omega) | fail)) only [go_sem, seval, ↓reduceIte, reduceCtorEq, undefV, t0, t2, t4, t6, t18, z1', z2, z3, hWz, hWn, hRn, hw3, hw4, hm2, i1, i2, i3, i4, i5]
      refine bad (hnn fun h => m5 h.2.2.2.1) _ _ (by simp -implicitDefEqProofs (disch := (first | omega | (simp -implicitDefEqProofs only [szs, ne_eq] <;> omega) | fail)) only [go_sem, seval, ↓reduceIte, reduceCtorEq, t2]) (by simp -implicitDefEqProofs (disch := (first | omega | (simp -implicitDefEqProofs only [szs, ne_eq] <;> omega) | fail)) only [go_sem, seval, ↓reduceIte, reduceCtorEq]) (by simp only [Heap.n_set, Heap.n_push]; omega) (fun k q1 q2 => by rw [w_set_ne (by simp only [Heap.n_set, Heap.n_push]; omega) q2, w_set_ne (by simp) (by omega), w_push_ne (by omega)]) ⟨_, w_set_eq (by simp only [Heap.n_set, Heap.n_push]; omega) rfl _, by simp only [Blk.size_set]; exact z2, by simp only [Blk.ro_set]; exact z3, gets5 fun j hj => ?_⟩
      simp only [Blk.get_set]
      have hh : j = 0 ∨ j = 1 ∨ j = 2 ∨ j = 3 ∨ j = 4 := by omega
      rcases hh with rfl | rfl | rfl | rfl | rfl <;> rfl
    have i5 : ¬ 4611686018427387904 < (H2.fi : Int) := by omega
    have hmay : mayH ((ct - 2) / 2) i H2 := ⟨m2, m1, m4, m5, m3⟩
    have hws : whichS ((ct - 2) / 2) i (D.seen (fr + i)) H = some (if H.ep < H2.ep then H2 else H) := by unfold whichS; rw [if_neg hzero, hh]; exact if_pos hmay
    have xo : co.get 0 = .int .u64 (H.ep : Int) := by have := Blk.gets_get co 5 0 0 (by omega); rw [o4] at this; exact (Option.some.inj this).symm
    have hWo' := hWo
    have hRo := hR ob
    by_cases hgt : H.ep < H2.ep
    · have i6 : (H.ep : Int) < (H2.ep : Int) := by omega
      rw [if_pos hgt] at hws
      simp -implicitDefEqProofs (disch := (first | omega | (simp -implicitDefEqProofs only [szs, ne_eq] <;> omega) | fail)) only [go_sem, seval, ↓reduceIte, reduceCtorEq, undefV, t0, t2, t4, t6, t18, z1', z2, z3, hWz, hWn, hRn, hw3, hw4, hm2, i1, i2, i3, i4, i5, i6, xo, o1', o2, o3, hRo, hWo]
      refine ⟨k - 1, by omega, i + 1, H2, by omega, rfl, hLt', hwn.trans hws, by simp only [Heap.n_set, Heap.n_push]; omega, fun k q1 q2 q3 => ?_, ⟨_, w_set_eq (by simp only [Heap.n_set, Heap.n_push]; omega) rfl _, by simp only [Blk.size_set]; exact o2, by simp only [Blk.ro_set]; exact o3, gets5 fun j hj => ?_⟩, ⟨cz, ?_, z2, z3⟩⟩
      · rw [w_set_ne (by simp only [Heap.n_set, Heap.n_push]; omega) q2, w_set_ne (by simp) (by omega), w_push_ne (by omega)]; exact gk4 k q1 q2 q3
      · simp only [Blk.get_set]
        have hh : j = 0 ∨ j = 1 ∨ j = 2 ∨ j = 3 ∨ j = 4 := by omega
        rcases hh with rfl | rfl | rfl | rfl | rfl <;> rfl
      · rw [w_set_ne (by simp only [Heap.n_set, Heap.n_push]; omega) (fun e => hob.2.2 e.symm), w_set_ne (by simp) (by omega), w_push_ne (by omega)]; exact z1'
    · have i6 : ¬ (H.ep : Int) < (H2.ep : Int) := by omega
      rw [if_neg hgt] at hws
      simp -implicitDefEqProofs (disch := (first | omega | (simp -implicitDefEqProofs only [szs, ne_eq] <;> omega) | fail)) only [go_sem, seval, ↓reduceIte, reduceCtorEq, undefV, t0, t2, t4, t6, t18, z1', z2, z3, hWz, hWn, hRn, hw3, hw4, hm2, i1, i2, i3, i4, i5, i6, xo, o1', o2, o3, hRo, hWo]
      refine ⟨k - 1, by omega, i + 1, H, by omega, rfl, hLt, hwn.trans hws, by simp only [Heap.n_set, Heap.n_push]; omega, fun k q1 q2 q3 => ?_, ⟨co, ?_, o2, o3, o4⟩, ⟨cz, ?_, z2, z3⟩⟩
      · rw [w_set_ne (by simp) (by omega), w_push_ne (by omega)]; exact gk4 k q1 q2 q3
      · rw [w_set_ne (by simp) (by omega), w_push_ne (by omega)]; exact o1'
      · rw [w_set_ne (by simp) (by omega), w_push_ne (by omega)]; exact z1'
end Go.Proofs.Ytakgjjbmniilhaa
