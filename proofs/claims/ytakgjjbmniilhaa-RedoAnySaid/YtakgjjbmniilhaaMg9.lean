/- The log: the records gone over. -/
import Derived.Test.YtakgjjbmniilhaaMg8
set_option linter.unusedVariables false
set_option maxRecDepth 100000
set_option linter.unusedVariables false
namespace Go.Proofs.Ytakgjjbmniilhaa
open Go Go.Vm
attribute [-go_sem] qQ
variable {h g : Heap} {R W M N : Set'} {bd lp fr ct : Nat} {D : DS} {G : LgS}
set_option maxHeartbeats 4000000 in
theorem seq74 {b1 y : Nat} {v : V} {vs : List V} {S : Set'} (I : Nat → Heap → Prop) (J : Heap → Prop) (h1 : h.get b1 = some (.cells (Blk.of [v]) 45)) (hv : LR h S v vs) (hvl : vs.length ≤ 1000000) (hI0 : I 0 h)
  (hx : ∀ p g, I p g → h.n ≤ g.n ∧ ∀ b, S b → b < h.n → g.get b = h.get b) (hW : ∀ b, W b → b < h.n)
  (hround : ∀ (p : Nat) g (hp : p < vs.length), I p g → SY ⟨Try.prog, true⟩ y [.int .i64 (p : Int), vs[p]] g (fun _ => True) (fun b => h.n ≤ b ∨ W b) (fun x g' => x = .bool true ∧ I (p + 1) g' ∨ x = .bool false ∧ J g')) :
  SF ⟨Try.prog, true⟩ 74 [.yield y, .ptr (some (b1, 0))] h (fun _ => True) W fun _ g => I vs.length g ∨ J g := by
 have hlen := hv.lenV Try.underlying45
 refine SF.go hm Try.func74 ir74_eq ?_
 simp -implicitDefEqProofs (disch := first | omega | (simp -implicitDefEqProofs only [szs, ne_eq] <;> omega) | fail) only [go_sem, seval, ↓reduceIte, reduceCtorEq, ir74, h1, ↓hlen]
 refine kE.inv hm (fun k f g => f.mks = [] ∧ f.tm.n = 18 ∧ f.tm.get 0 = some (.yield y) ∧ f.tm.get 5 = some v ∧ f.tm.get 6 = some (.int .i64 (vs.length : Int)) ∧ ∃ p : Nat, p + k = vs.length ∧ f.tm.get 7 = some (.int .i64 (p : Int)) ∧ I p g) vs.length ?_ ?_
 ·exact ⟨rfl, rfl, by simp -implicitDefEqProofs (disch := first | omega | (simp -implicitDefEqProofs only [szs, ne_eq] <;> omega) | fail) only [go_sem, seval, ↓reduceIte], by simp -implicitDefEqProofs (disch := first | omega | (simp -implicitDefEqProofs only [szs, ne_eq] <;> omega) | fail) only [go_sem, seval, ↓reduceIte, reduceCtorEq], by simp -implicitDefEqProofs (disch := first | omega | (simp -implicitDefEqProofs only [szs, ne_eq] <;> omega) | fail) only [go_sem, seval, ↓reduceIte, reduceCtorEq], 0, by omega, by simp -implicitDefEqProofs (disch := first | omega | (simp -implicitDefEqProofs only [szs, ne_eq] <;> omega) | fail) only [go_sem, seval, ↓reduceIte, reduceCtorEq], hI0⟩
 rintro k ⟨⟨n', tr⟩, mks⟩ g ⟨hmk, hn', t0, t5, t6, p, hpk, t7, hI⟩
 simp only [Tm.kL] at hmk hn' t0 t5 t6 t7
 subst hmk hn'
 by_cases hp : p < vs.length
 rotate_left
 ·have hc : ¬ (p : Int) < (vs.length : Int) := by omega
  obtain rfl : p = vs.length := by omega
  simp -implicitDefEqProofs (disch := first | omega | (simp -implicitDefEqProofs only [szs, ne_eq] <;> omega) | fail) only [go_sem, seval, ↓reduceIte, ir74_l0, t6, t7, hc]
  exact .inl hI
 have hc : (p : Int) < (vs.length : Int) := by omega
 obtain ⟨hgn, hgk⟩ := hx p g hI
 obtain ⟨b, o, cap, ex, c, ce, rfl, hSb, hb, hs, hg⟩ := (hv.same fun b hb hlt => hgk b hb hlt).get hp
 rw [List.getD_eq_getElem?_getD, List.getElem?_eq_getElem hp, Option.getD_some] at hg
 have hos : o + p < c.size := by omega
 have hp0 : (0 : Int) ≤ (p : Int) := by omega
 simp -implicitDefEqProofs (disch := first | omega | (simp -implicitDefEqProofs only [szs, ne_eq] <;> omega) | fail) only [go_sem, seval, ↓reduceIte, reduceCtorEq, ir74_l0, t0, t5, t6, t7, hc, hp0, hb, hg]
 refine GYield.of (SY.foot (hround p g hp hI) (fun _ h => h) (fun _ h => h)) ?_
 rintro x g2 (⟨rfl, hI2⟩ | ⟨rfl, hJ⟩)
 ·simp -implicitDefEqProofs (disch := first | omega | (simp -implicitDefEqProofs only [szs, ne_eq] <;> omega) | fail) only [go_sem, seval, ↓reduceIte, reduceCtorEq, t0, t5, t6, t7]
  exact ⟨k - 1, by omega, p + 1, by omega, by simp, hI2⟩
 ·simp -implicitDefEqProofs (disch := first | omega | (simp -implicitDefEqProofs only [szs, ne_eq] <;> omega) | fail) only [go_sem, seval, ↓reduceIte]
  exact .inr hJ
theorem clone45 {S : Set'} {v : V} {l : List V} (hv : LR h S v l) (hR : ∀ b, R b) (hl : l.length ≤ 1000000) (h1 : allOne l = true) : SF Try.prog 45 [v] h R W fun r h' => Own h.n h' r l 22 ∧ ∀ b, b < h.n → h'.get b = h.get b := by
 refine SF.go hm Try.func45 ir45_eq ?_
 obtain ⟨hx, rs, hf, hrs⟩ := first_lr (hv.old (h' := h.push (.cells (Blk.of []) 22)) fun b hb => qC (by omega) _)
 obtain ⟨v', h', r, w, hap, ho, hn, hk, hw, _⟩ := jK (n0 := h.n) (h := h.push (.cells (Blk.of []) 22)) (v := .slice (some (h.n, 0)) 0 0 true) (l := []) (e := 22) (bytes := 24) (.inl ⟨rfl, .inr ⟨h.n, _, rfl, Nat.le_refl _, qH rfl _, rfl⟩⟩) (by simp only [Heap.qG]; omega) hx hf h1 (by simp only [List.length_nil]; omega) (by simp only [List.length_nil]; omega)
 rw [List.nil_append] at ho
 have hrR : allB (fun b => h.n ≤ b ∨ R b) r := qO fun b hb => .inr (hR b)
 have hwW : allB (fun b => h.n ≤ b ∨ W b) w := qO fun b hb => .inl (hw b hb)
 rcases hv with ⟨rfl, rfl | ⟨a, rfl⟩⟩ | ⟨b, o, cap, ex, c, ce, rfl, hR, hb, hs, hg⟩
 ·simp -implicitDefEqProofs (disch := omega) only [go_sem, seval, ↓reduceIte, reduceCtorEq, ir45]
  exact .inl ⟨rfl, .inl rfl⟩
 ·simp -implicitDefEqProofs (disch := omega) only [go_sem, seval, ↓reduceIte, reduceCtorEq, ir45, qU ap_45, hap]
  exact ⟨hrR, hwW, ho, fun b hb => by rw [hk b hb, qC (by omega)]⟩
 ·simp -implicitDefEqProofs (disch := omega) only [go_sem, seval, ↓reduceIte, reduceCtorEq, ir45, qU ap_45, hap]
  exact ⟨hrR, hwW, ho, fun b hb => by rw [hk b hb, qC (by omega)]⟩
theorem recs_ok (hl : LgX h N lp bd fr ct G) (hR : ∀ b, R b) (hb : G.rs.length ≤ 1000000) (hfi : G.H.fi < 9223372036854775808) : SF Try.prog 21 [.ptr (some (lp, 0))] h R W fun r g => ∃ b3 b4 v vs, r = .func 46 [] [.ptr (some (b3, 0)), .ptr (some (b4, 0))] ∧ h.n ≤ b3 ∧ h.n ≤ b4 ∧ (∃ c, g.get b3 = some (.cells c 45) ∧ c.size = 1 ∧ c.get 0 = v) ∧ (∃ c, g.get b4 = some (.cells c 2) ∧ c.size = 1 ∧ c.get 0 = .int .i64 (G.H.fi : Int)) ∧ LR g (fun b => h.n ≤ b) v vs ∧ vs.length = G.rs.length ∧ (∀ i l, G.rs[i]? = some l → LR g (N5 g N) (vs.getD i qE) l) ∧ h.n ≤ g.n ∧ ∀ k, k < h.n → g.get k = h.get k := by
 have hl0 := hl
 obtain ⟨⟨c, v11, rv, vs, hl⟩, hlt, hNl⟩ := hl
 have l1 := hl.l1
 have l2 := hl.l2
 have k12 := hl.k12
 have ra := hR lp
 have hR' : ∀ b, h.n ≤ b ∨ R b := fun b => .inr (hR b)
 have c7 : c.get 7 = .int .u64 (G.H.fi : Int) := jG hl.k3 (j := 4) (by omega)
 have ew : IntKind.i64.wrap (G.H.fi : Int) = (G.H.fi : Int) := by rw [IntWalk.i64_in] <;> omega
 refine SF.go hm Try.func21 ir21_eq ?_
 simp -implicitDefEqProofs (disch := first | omega | (simp -implicitDefEqProofs only [szs, ne_eq] <;> omega) | fail) only [go_sem, seval, ↓reduceIte, reduceCtorEq, ir21]
 obtain ⟨gA, eA⟩ : ∃ gA, gA = (((h.push (.cells (Blk.of [.slice none 0 0 true]) 45)).push (.cells (Blk.of [.int .i64 0]) 2)).set (h.n + 1) (.cells ((Blk.of [V.int IntKind.i64 0]).set 0 (V.int IntKind.i64 0)) 2)) := ⟨_, rfl⟩
 rw [← eA]
 have nA : gA.n = h.n + 2 := by rw [eA]; simp
 have kA : ∀ k, k < h.n → gA.get k = h.get k := fun k hk => by rw [eA, qB (by simp) (by omega), qC (by simp; omega), qC (by omega)]
 have A0 : gA.get h.n = some (.cells (Blk.of [.slice none 0 0 true]) 45) := by rw [eA, qB (by simp) (by omega), qC (by simp)]; exact qH rfl _
 have A1 : gA.get (h.n + 1) = some (.cells ((Blk.of [V.int IntKind.i64 0]).set 0 (V.int IntKind.i64 0)) 2) := by rw [eA]; exact qF (by simp) rfl _
 clear eA
 have hlA : LgX gA N lp bd fr ct G := hl0.keep (by omega) fun k hk _ => kA k hk
 refine qK.of (yP hlA hR') ?_
 rintro r g ⟨rfl, rfl⟩
 have L1 := (kA lp (Heap.lt_of_get l1)).trans l1
 simp -implicitDefEqProofs (disch := first | omega | (simp -implicitDefEqProofs only [szs, ne_eq] <;> omega) | fail) only [go_sem, seval, ↓reduceIte, reduceCtorEq, qE, L1, l2, k12]
 have hone : allOne vs = true := allOne_of fun i hi => by
  obtain ⟨l, hl'⟩ : ∃ l, G.rs[i]? = some l := ⟨G.rs[i]'(by rw [← hl.vl]; exact hi), List.getElem?_eq_getElem _⟩
  exact (hl.ve i l hl').one
 have vlA : LR g (fun b => 0 ≤ b) rv vs := hl.vd.lr.old kA
 refine qN.of (SF.foot (clone45 (R := qR) (W := noW) vlA (fun _ => trivial) (by rw [hl.vl]; exact hb) hone).kept (fun _ h => h) (fun _ h => h)) ?_
 rintro r g2 ⟨⟨o2, k2⟩, vf⟩
 have n2 := vf.n
 have L2 := (k2 lp (by have := Heap.lt_of_get l1; omega)).trans L1
 have B0 := (k2 h.n (by omega)).trans A0
 have B1 := (k2 (h.n + 1) (by omega)).trans A1
 have hro := o2.lr.one
 have hrc := o2.lr.cells
 simp -implicitDefEqProofs (disch := first | omega | (simp -implicitDefEqProofs only [szs, ne_eq] <;> omega) | fail) only [go_sem, seval, ↓reduceIte, reduceCtorEq, qE, L2, l2, c7, ra, cvd42_2, c42_2, ew, B0, B1, ↓hro, ↓hrc]
 have hlp := Heap.lt_of_get l1
 have q1 : (((g2.set h.n (.cells ((Blk.of [V.slice none 0 0 true]).set 0 r) 45)).set (h.n + 1) (.cells (((Blk.of [V.int IntKind.i64 0]).set 0 (V.int IntKind.i64 0)).set 0 (V.int IntKind.i64 ↑G.H.fi)) 2)).get h.n) = some (.cells ((Blk.of [V.slice none 0 0 true]).set 0 r) 45) := by
  rw [qB (by simp only [Heap.n_set]; omega) (by omega)]; exact qF (by omega) rfl _
 have kB : ∀ k, k ≠ h.n → k ≠ h.n + 1 → (((g2.set h.n (.cells ((Blk.of [V.slice none 0 0 true]).set 0 r) 45)).set (h.n + 1) (.cells (((Blk.of [V.int IntKind.i64 0]).set 0 (V.int IntKind.i64 0)).set 0 (V.int IntKind.i64 ↑G.H.fi)) 2)).get k) = g2.get k := fun k h1 h2 => by
  rw [qB (by simp only [Heap.n_set]; omega) h2, qB (by omega) h1]
 refine ⟨?_, ⟨fun b _ _ => .inr (hR b), fun b _ h => h.elim⟩, h.n, h.n + 1, r, vs, rfl, Nat.le_refl _, by omega, ⟨_, q1, rfl, by rw [Blk.get_set, if_pos rfl]⟩, ⟨_, qF (by simp only [Heap.n_set]; omega) rfl _, rfl, by rw [Blk.get_set, if_pos rfl]⟩, ?_, hl.vl, fun i l hi => ?_, by omega, fun k hk => by rw [kB k (by omega) (by omega), k2 k (by omega), kA k hk]⟩
 ·repeat' apply And.intro
  all_goals
   intro b hb hc
   simp [noW] at hb hc
   try omega
 ·refine (o2.lr.mono fun b _ (h : g.n ≤ b) => show g.n ≤ b from h).same (fun b hb _ => kB b (by omega) (by omega)) |>.mono fun b _ hb => by omega
 ·have hz : ∀ b, N5 h N b → (((g2.set h.n (.cells ((Blk.of [V.slice none 0 0 true]).set 0 r) 45)).set (h.n + 1) (.cells (((Blk.of [V.int IntKind.i64 0]).set 0 (V.int IntKind.i64 0)).set 0 (V.int IntKind.i64 ↑G.H.fi)) 2)).get b) = h.get b := fun b hb => by
   have := hlt b hb.1
   rw [kB b (by omega) (by omega), k2 b (by omega), kA b this]
  exact ((hl.ve i l hi).same fun b hb _ => hz b hb).mono fun b _ hb => ⟨hb.1, by obtain ⟨c', h2⟩ := hb.2; exact ⟨c', (hz b hb).trans h2⟩⟩
end Go.Proofs.Ytakgjjbmniilhaa
set_option maxRecDepth 100000
set_option linter.unusedVariables false
namespace Go.Proofs.Ytakgjjbmniilhaa
open Go Go.Vm
attribute [-go_sem] qQ
variable {h g : Heap} {R W M N : Set'} {bd lp fr ct : Nat} {D : DS} {G : LgS}
theorem all47_ok {v : V} (hv : v.one = true) : SF Try.prog 47 [v] h R W fun r g => r = .func 74 [] [.ptr (some (h.n, 0))] ∧ g = h.push (.cells (Blk.of [v]) 45) := by
 have hc := one_cells hv
 refine SF.go hm Try.func47 ir47_eq ?_
 simp -implicitDefEqProofs (disch := omega) only [go_sem, seval, ↓reduceIte, reduceCtorEq, ir47, ↓hc]
noncomputable def lvS (tr : Tr V) (m : Nat) : Loopv := ⟨.ready, none, ⟨18, tr⟩, [8, 9], (rc46 0).1, (rc46 0).2, m⟩
set_option maxHeartbeats 8000000 in
theorem rnd46 {n0 : Nat} {tr : Tr V} {m l b4 xb y p fi : Nat} {x : V} {L : List V} {T : Set'} {K : V → Heap → Prop} (hl : g.get l = some (.loop (lvS tr m))) (hll : n0 ≤ l) (hxl : xb < l) (h4l : b4 < l)
  (t2 : tr.get 2 = some (.ptr (some (b4, 0)))) (t3 : tr.get 3 = some (.ptr (some (xb, 0))))
  (x1 : g.get xb = some (.cells (Blk.of [.yield y]) 96)) (h4 : ∃ c, g.get b4 = some (.cells c 2) ∧ c.size = 1 ∧ c.get 0 = .int .i64 (fi : Int))
  (hx : LR g T x L) (hT : ∀ b, T b → b ≠ l) (hby : Byt L ∧ L.length ≤ 1000000) (hfi : fi ≤ 4611686018427387904) (hp : p ≤ 1000000)
  (hround : ∀ g1 w, (∀ b, b < g.n → b ≠ l → g1.get b = g.get b) → g1.get l = some (.loop { lvS tr m with state := .busy }) → g.n ≤ g1.n → Own g.n g1 w L 5 → SY ⟨Try.prog, true⟩ y [.int .i64 ((fi + p : Nat) : Int), w] g1 (fun _ => True) (fun b => n0 ≤ b ∨ W b) (fun z g' => g'.get l = some (.loop { lvS tr m with state := .busy }) ∧ (z = .bool true ∧ K (.bool true) (g'.set l (.loop (lvS tr m))) ∨ z = .bool false ∧ K (.bool false) (g'.set l (.loop { lvS tr m with state := .done, pending := some .ret }))))) :
  SY ⟨Try.prog, true⟩ l [.int .i64 (p : Int), x] g (fun _ => True) (fun b => n0 ≤ b ∨ W b) K := by
 have hxo := hx.one
 have hll' := Heap.lt_of_get hl
 simp only [lvS] at hl hround ⊢
 refine SY.go Go.Proofs.Ytakgjjbmniilhaa.hm hl trivial (.inl hll) rfl ir46_a0_eq ir46_b0_eq ?_
 simp -implicitDefEqProofs (disch := first | omega | (simp -implicitDefEqProofs only [szs, ne_eq] <;> omega) | fail) only [go_sem, seval, ↓reduceIte, ir46_a0]
 refine ⟨_, hl, rfl, ?_⟩
 obtain ⟨G, eG⟩ : ∃ G, G = g.set l (.loop ⟨.busy, none, ⟨18, tr⟩, [8, 9], (rc46 0).1, (rc46 0).2, m⟩) := ⟨_, rfl⟩
 rw [← eG]
 have nG : G.n = g.n := by rw [eG]; simp
 have kG : ∀ b, b ≠ l → G.get b = g.get b := fun b h1 => by rw [eG, qB hll' h1]
 have lG : G.get l = some (.loop ⟨.busy, none, ⟨18, tr⟩, [8, 9], (rc46 0).1, (rc46 0).2, m⟩) := by rw [eG]; exact qF hll' rfl _
 clear eG
 obtain ⟨c4, g4, s4, v4⟩ := h4
 have X1 := (kG xb (by omega)).trans x1
 have X4 := (kG b4 (by omega)).trans g4
 have e1 : (fi : Int) + (p : Int) = ((fi + p : Nat) : Int) := by omega
 simp -implicitDefEqProofs (disch := first | omega | (simp -implicitDefEqProofs only [szs, ne_eq] <;> omega) | fail) only [go_sem, seval, ↓reduceIte, ir46_b0, qE, t2, t3, X1, X4, s4, v4, e1]
 refine qN.of (SF.foot (clone42 (R := qR) (W := noW) (hx.same fun b hb _ => kG b (hT b hb)) (fun _ => trivial) hby.2 hby.1.allOne).kept (fun _ h => h) (fun _ h => h)) ?_
 rintro w g2 ⟨⟨o2, k2⟩, vf⟩
 have n2 := vf.n
 simp -implicitDefEqProofs (disch := first | omega | (simp -implicitDefEqProofs only [szs, ne_eq] <;> omega) | fail) only [go_sem, seval, ↓reduceIte]
 have hrd := hround g2 w (fun b hb hbl => by rw [k2 b (by omega), kG b hbl]) ((k2 l (by omega)).trans lG) (by omega) (nG ▸ o2)
 refine qX.yield (R' := fun _ => True) (W' := fun b => n0 ≤ b ∨ W b) (by simp -implicitDefEqProofs (disch := first | omega | (simp -implicitDefEqProofs only [szs, ne_eq] <;> omega) | fail) only [go_sem, seval, ↓reduceIte]) (by simp -implicitDefEqProofs (disch := first | omega | (simp -implicitDefEqProofs only [szs, ne_eq] <;> omega) | fail) only [go_sem, seval, ↓reduceIte]) (SY.monoV hrd fun v g' q vf => (⟨q, vf⟩ : (_ ∧ _) ∧ VF g2 g' _)) rfl ?_ ?_ ?_
 ·change yN _ [(0, 5), (1, 5), (2, 5), (3, 5)]
  simp -implicitDefEqProofs (disch := first | omega | (simp -implicitDefEqProofs only [szs, ne_eq] <;> omega) | fail) only [go_sem, seval]
  repeat' apply And.intro
  all_goals
   intro b hb hc
   simp [noW, qR] at hb hc
   try omega
 ·simp -implicitDefEqProofs (disch := first | omega | (simp -implicitDefEqProofs only [szs, ne_eq] <;> omega) | fail) only [go_sem, seval]
  exact ⟨fun b _ h => h.elim, fun b _ h => h⟩
 rintro z g4 ⟨⟨hlg, hz⟩, vf4⟩
 have n4 := vf4.n
 rcases hz with ⟨rfl, hz⟩ | ⟨rfl, hz⟩
 all_goals
  simp -implicitDefEqProofs (disch := first | omega | (simp -implicitDefEqProofs only [szs, ne_eq] <;> omega) | fail) only [go_sem, seval, ↓reduceIte]
  refine ⟨?_, ⟨fun b _ h => h.elim, fun b _ h => h⟩, _, hlg, hz⟩
  repeat' apply And.intro
  all_goals
   intro b hb hc
   simp [noW, qR] at hb hc
   try omega
set_option maxHeartbeats 8000000 in
theorem rg46 {g0 : Heap} {Q : Ex → Fr → Heap → Prop} {t : List It} {b4 y fi xb vb : Nat} {v : V} {vs : List V} {rs : List (List V)} {S T : Set'} {tr : Tr V} (I : Nat → Heap → Prop) (J : Heap → Prop)
  (hn0 : h.n ≤ g0.n) (k0 : ∀ b, b < h.n → g0.get b = h.get b) (hxb : h.n ≤ xb) (hvb : h.n ≤ vb)
  (x1 : g0.get xb = some (.cells (Blk.of [.yield y]) 96)) (x2 : g0.get vb = some (.cells (Blk.of [v]) 45))
  (h4 : ∃ c, h.get b4 = some (.cells c 2) ∧ c.size = 1 ∧ c.get 0 = .int .i64 (fi : Int))
  (hv : LR h S v vs) (hvl : vs.length = rs.length) (hrl : rs.length ≤ 1000000) (hve : ∀ i l, rs[i]? = some l → LR h T (vs.getD i qE) l) (hby : ∀ l ∈ rs, Byt l ∧ l.length ≤ 1000000) (hfi : fi ≤ 4611686018427387904) (hI0 : I 0 h)
  (hx : ∀ p g, I p g → h.n ≤ g.n ∧ ∀ b, S b ∨ T b ∨ b = b4 → b < h.n → g.get b = h.get b)
  (hkeep : ∀ p g g', I p g → g.n ≤ g'.n → (∀ b, b < h.n → g'.get b = g.get b) → I p g')
  (hkeepJ : ∀ g g', J g → g.n ≤ g'.n → (∀ b, b < h.n → g'.get b = g.get b) → J g') (hW : ∀ b, W b → b < h.n)
  (hround : ∀ (p n0 : Nat) g w l, rs[p]? = some l → I p g → Own n0 g w l 5 → h.n ≤ n0 → SY ⟨Try.prog, true⟩ y [.int .i64 ((fi + p : Nat) : Int), w] g (fun _ => True) (fun b => h.n ≤ b ∨ W b) (fun x g' => (x = .bool true ∧ I (p + 1) g' ∨ x = .bool false ∧ J g') ∧ g.n ≤ g'.n ∧ ∀ b, h.n ≤ b → b < g.n → (∀ c, g.get b ≠ some (.cells c 5)) → g'.get b = g.get b))
  (t2 : tr.get 2 = some (.ptr (some (b4, 0)))) (t3 : tr.get 3 = some (.ptr (some (xb, 0)))) (t7 : tr.get 7 = some (.func 74 [] [.ptr (some (vb, 0))]))
  (hk : ∀ g2 m, I rs.length g2 → h.n ≤ m → g2.get m = some (.deferred true) → GO ⟨Try.prog, true⟩ (fun _ => True) (fun b => h.n ≤ b ∨ W b) none Q t ⟨⟨18, tr⟩, [m]⟩ g2)
  (hkJ : ∀ g2 m, J g2 → h.n ≤ m → g2.get m = some (.deferred true) → Q .ret ⟨⟨18, tr⟩, [m]⟩ g2) :
  yH ⟨Try.prog, true⟩ (fun _ => True) (fun b => h.n ≤ b ∨ W b) none Q (.tmp 7) #[8, 9] (rc46 0).1 (rc46 0).2 (.blk 0 :: t) ⟨⟨18, tr⟩, []⟩ g0 := by
 refine yH.outer (k := 74) (xs := []) (ys := [.ptr (some (vb, 0))]) (by simp -implicitDefEqProofs (disch := omega) only [go_sem, seval, t7]) ca_74 ?_
 obtain ⟨hA, eA⟩ : ∃ hA, hA = (g0.push (.deferred true)).push (.loop (lvS tr g0.n)) := ⟨_, rfl⟩
 rw [show (([] ++ [V.yield (g0.n + 1)]) ++ [.ptr (some (vb, 0))] : List V) = [V.yield (g0.n + 1), .ptr (some (vb, 0))] from rfl, show (#[8, 9] : Array Tmp).toList = [8, 9] from rfl, show (⟨.ready, none, ⟨18, tr⟩, [8, 9], (rc46 0).1, (rc46 0).2, g0.n⟩ : Loopv) = lvS tr g0.n from rfl, ← eA]
 have nA : hA.n = g0.n + 2 := by rw [eA]; simp
 have kA : ∀ b, b < g0.n → hA.get b = g0.get b := fun b hb => by rw [eA, qC (by simp; omega), qC (by omega)]
 have mA : hA.get g0.n = some (.deferred true) := by rw [eA, qC (by simp)]; exact qH rfl _
 have lA : hA.get (g0.n + 1) = some (.loop (lvS tr g0.n)) := by rw [eA]; exact qH (by simp) _
 clear eA
 have hxbl := Heap.lt_of_get x1
 have hvbl := Heap.lt_of_get x2
 have kH : ∀ b, b < h.n → hA.get b = h.get b := fun b hb => by rw [kA b (by omega), k0 b hb]
 have X1 := (kA xb hxbl).trans x1
 have X2 := (kA vb hvbl).trans x2
 have hvA : LR hA (fun b => S b ∧ b < h.n) v vs := (hv.mono (R' := fun b => S b ∧ b < h.n) fun b hb h => ⟨h, hb⟩).old kH
 refine SF.mono (SF.foot (seq74 (h := hA) (y := g0.n + 1) (W := fun b => (h.n ≤ b ∧ b < hA.n) ∨ W b) (fun p g => I p g ∧ hA.n ≤ g.n ∧ g.get (g0.n + 1) = some (.loop (lvS tr g0.n)) ∧ ∀ b, h.n ≤ b → b < hA.n → b ≠ g0.n + 1 → (∀ c, hA.get b ≠ some (.cells c 5)) → g.get b = hA.get b)
  (fun g => J g ∧ hA.n ≤ g.n ∧ g.get (g0.n + 1) = some (.loop { lvS tr g0.n with state := .done, pending := some .ret }) ∧ ∀ b, h.n ≤ b → b < hA.n → b ≠ g0.n + 1 → (∀ c, hA.get b ≠ some (.cells c 5)) → g.get b = hA.get b) X2 hvA (by omega) ⟨hkeep _ _ _ hI0 (by omega) kH, Nat.le_refl _, lA, fun _ _ _ _ _ => rfl⟩ (fun p g hI => ⟨hI.2.1, fun b hb _ => ?_⟩) (fun b hb => ?_) ?_) (fun _ h => h) (fun b hb => ?_)) ?_
 ·rw [(hx p g hI.1).2 b (.inl hb.1) hb.2, kH b hb.2]
 ·rcases hb with h1 | h1
  ·exact h1.2
  ·have := hW b h1; omega
 ·rintro p g hp ⟨hI, hgn, hgl, hgk⟩
  have hxp := hx p g hI
  obtain ⟨l, hl'⟩ : ∃ l, rs[p]? = some l := ⟨rs[p]'(by omega), List.getElem?_eq_getElem _⟩
  have hve' := hve p l hl'
  rw [List.getD_eq_getElem?_getD, List.getElem?_eq_getElem hp, Option.getD_some] at hve'
  have hveg : LR g (fun b => T b ∧ b < h.n) vs[p] l := (hve'.mono (R' := fun b => T b ∧ b < h.n) fun b hb h => ⟨h, hb⟩).same fun b hb _ => hxp.2 b (.inr (.inl hb.1)) hb.2
  obtain ⟨c4, q1, q2, q3⟩ := h4
  have hb4 := Heap.lt_of_get q1
  refine SY.foot (rnd46 (n0 := h.n) (W := W) (m := g0.n) (l := g0.n + 1) (b4 := b4) (xb := xb) (y := y) (fi := fi) (tr := tr) hgl (by omega) (by omega) (by omega) t2 t3 ((hgk xb hxb (by omega) (by omega) (fun c e => by rw [X1] at e; cases e)).trans X1) ⟨c4, (hxp.2 b4 (.inr (.inr rfl)) hb4).trans q1, q2, q3⟩ hveg (fun b hb e => by have := hb.2; omega) (hby l (List.mem_of_getElem? hl')) hfi (by omega) fun g1 w hk1 hl1 hn1 ho1 => ?_) (fun _ h => h) (fun b hb => ?_)
  ·have hI1 : I p g1 := hkeep _ _ _ hI hn1 fun b hb => hk1 b (by omega) (by omega)
   refine SY.mono (hround p g.n g1 w l hl' hI1 ho1 (by omega)) ?_
   rintro z g' ⟨hz, hn', hk'⟩
   have hl2 := (hk' (g0.n + 1) (by omega) (by omega) (fun c e => by rw [hl1] at e; cases e)).trans hl1
   have hlt2 := Heap.lt_of_get hl2
   have kk : ∀ (lv : Loopv) b, h.n ≤ b → b < hA.n → b ≠ g0.n + 1 → (∀ c, hA.get b ≠ some (.cells c 5)) → (g'.set (g0.n + 1) (.loop lv)).get b = hA.get b := fun lv b h1 h2 h3 h4 => by
    have e1 := hgk b h1 h2 h3 h4
    have e2 := hk1 b (by omega) h3
    rw [qB hlt2 h3, hk' b h1 (by omega) (fun c e => h4 c (by rw [← e1, ← e2, e])), e2, e1]
   refine ⟨hl2, hz.imp ?_ ?_⟩
   ·rintro ⟨rfl, hI2⟩
    exact ⟨rfl, .inl ⟨rfl, hkeep _ _ _ hI2 (by rw [Heap.n_set]; omega) fun b hb => qB hlt2 (by omega) _, by rw [Heap.n_set]; omega, qF hlt2 rfl _, kk _⟩⟩
   ·rintro ⟨rfl, hJ2⟩
    exact ⟨rfl, .inr ⟨rfl, hkeepJ _ _ hJ2 (by rw [Heap.n_set]; omega) fun b hb => qB hlt2 (by omega) _, by rw [Heap.n_set]; omega, qF hlt2 rfl _, kk _⟩⟩
  ·rcases hb with h1 | h1
   ·by_cases h2 : b < hA.n
    ·exact .inr (.inl ⟨h1, h2⟩)
    ·exact .inl (by omega)
   ·exact .inr (.inr h1)
 ·rcases hb with h1 | h1
  ·exact .inl h1.1
  ·exact .inr h1
 ·rintro v g2 (⟨hI2, hn2, hl2, hk2⟩ | ⟨hJ2, hn2, hl2, hk2⟩)
  ·have hlt := Heap.lt_of_get hl2
   refine ⟨_, hl2, by simp [lvS], .inl (by omega), ?_⟩
   simp only [lvS]
   simp -implicitDefEqProofs (disch := omega) only [go_sem, seval]
   rw [hvl] at hI2
   refine hk _ _ (hkeep _ _ _ hI2 (by rw [Heap.n_set]; omega) fun b hb => qB hlt (by omega) _) hn0 ?_
   rw [qB hlt (by omega), hk2 g0.n hn0 (by omega) (by omega) (fun c e => by rw [mA] at e; cases e)]; exact mA
  ·have hlt := Heap.lt_of_get hl2
   refine ⟨_, hl2, by simp [lvS], .inl (by omega), ?_⟩
   simp only [lvS]
   refine hkJ _ _ (hkeepJ _ _ hJ2 (by rw [Heap.n_set]; omega) fun b hb => qB hlt (by omega) _) hn0 ?_
   rw [qB hlt (by omega), hk2 g0.n hn0 (by omega) (by omega) (fun c e => by rw [mA] at e; cases e)]; exact mA
set_option maxHeartbeats 8000000 in
theorem seq46 {b3 b4 y fi : Nat} {v : V} {vs : List V} {rs : List (List V)} {S T : Set'} (I : Nat → Heap → Prop) (J : Heap → Prop)
  (h3 : ∃ c, h.get b3 = some (.cells c 45) ∧ c.size = 1 ∧ c.get 0 = v) (h4 : ∃ c, h.get b4 = some (.cells c 2) ∧ c.size = 1 ∧ c.get 0 = .int .i64 (fi : Int))
  (hv : LR h S v vs) (hvl : vs.length = rs.length) (hrl : rs.length ≤ 1000000) (hve : ∀ i l, rs[i]? = some l → LR h T (vs.getD i qE) l) (hby : ∀ l ∈ rs, Byt l ∧ l.length ≤ 1000000) (hfi : fi ≤ 4611686018427387904) (hI0 : I 0 h)
  (hx : ∀ p g, I p g → h.n ≤ g.n ∧ ∀ b, S b ∨ T b ∨ b = b4 → b < h.n → g.get b = h.get b)
  (hkeep : ∀ p g g', I p g → g.n ≤ g'.n → (∀ b, b < h.n → g'.get b = g.get b) → I p g')
  (hkeepJ : ∀ g g', J g → g.n ≤ g'.n → (∀ b, b < h.n → g'.get b = g.get b) → J g') (hW : ∀ b, W b → b < h.n)
  (hround : ∀ (p n0 : Nat) g w l, rs[p]? = some l → I p g → Own n0 g w l 5 → h.n ≤ n0 → SY ⟨Try.prog, true⟩ y [.int .i64 ((fi + p : Nat) : Int), w] g (fun _ => True) (fun b => h.n ≤ b ∨ W b) (fun x g' => (x = .bool true ∧ I (p + 1) g' ∨ x = .bool false ∧ J g') ∧ g.n ≤ g'.n ∧ ∀ b, h.n ≤ b → b < g.n → (∀ c, g.get b ≠ some (.cells c 5)) → g'.get b = g.get b)) :
  SF ⟨Try.prog, true⟩ 46 [.yield y, .ptr (some (b3, 0)), .ptr (some (b4, 0))] h (fun _ => True) W fun _ g => I rs.length g ∨ J g := by
 obtain ⟨c3, g3, s3, v3⟩ := h3
 obtain ⟨c4, g4, s4, v4⟩ := h4
 have hvo := hv.one
 have hlt3 := Heap.lt_of_get g3
 refine SF.go hm Try.func46 ir46_eq ?_
 simp -implicitDefEqProofs (disch := omega) only [go_sem, seval, ↓reduceIte, reduceCtorEq, ir46, g3, s3, v3]
 refine qK.of (SF.any (M := ⟨Try.prog, true⟩) (all47_ok hvo)) ?_
 rintro r g ⟨rfl, rfl⟩
 simp -implicitDefEqProofs (disch := omega) only [go_sem, seval, ↓reduceIte, reduceCtorEq]
 obtain ⟨g0, e0⟩ : ∃ g0, g0 = ((h.push (.cells (Blk.of [V.yield y]) 96)).push (.cells (Blk.of [v]) 45)) := ⟨_, rfl⟩
 rw [← e0]
 have n0 : g0.n = h.n + 2 := by rw [e0]; simp
 have k0 : ∀ b, b < h.n → g0.get b = h.get b := fun b hb => by rw [e0, qC (by simp; omega), qC (by omega)]
 have x1 : g0.get h.n = some (.cells (Blk.of [.yield y]) 96) := by rw [e0, qC (by simp)]; exact qH rfl _
 have x2 : g0.get (h.n + 1) = some (.cells (Blk.of [v]) 45) := by rw [e0]; exact qH (by simp) _
 clear e0
 refine rg46 (b4 := b4) (y := y) (fi := fi) (xb := h.n) (vb := h.n + 1) (v := v) (vs := vs) (rs := rs) (S := S) (T := T) I J (by omega) k0 (Nat.le_refl _) (by omega) x1 x2 ⟨c4, g4, s4, v4⟩ hv hvl hrl hve hby hfi hI0 hx hkeep hkeepJ hW hround (by simp -implicitDefEqProofs (disch := omega) only [go_sem, seval, ↓reduceIte, reduceCtorEq]) (by simp -implicitDefEqProofs (disch := omega) only [go_sem, seval, ↓reduceIte, reduceCtorEq]) (by simp -implicitDefEqProofs (disch := omega) only [go_sem, seval, ↓reduceIte, reduceCtorEq]) (fun g2 m hI2 hm2 hd2 => ?_) fun g2 m hJ2 hm2 hd2 => ?_
 ·simp -implicitDefEqProofs (disch := omega) only [go_sem, seval, hd2]
  have := Heap.lt_of_get hd2
  exact ⟨.inl hm2, .inl (hkeep _ _ _ hI2 (by rw [Heap.n_set]; exact Nat.le_refl _) fun b hb => qB this (by omega) _)⟩
 ·simp -implicitDefEqProofs (disch := omega) only [go_sem, seval, hd2]
  have := Heap.lt_of_get hd2
  exact ⟨.inl hm2, .inr (hkeepJ _ _ hJ2 (by rw [Heap.n_set]; exact Nat.le_refl _) fun b hb => qB this (by omega) _)⟩
end Go.Proofs.Ytakgjjbmniilhaa
