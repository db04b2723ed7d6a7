/- Filters: going over Passing of one packet. -/
import Derived.Test.YtmimialblhlklaaF4
import Derived.Test.YtmimialblhlklaaV4
import Derived.Test.YtmimialblhlklaaV2
set_option linter.unusedVariables false
set_option maxRecDepth 100000
namespace Go.Proofs.Ytmimialblhlklaa
open Go Go.Vm
variable {h : Heap} {R W I : Set'}
theorem ok65 {v : V} (hv : v.cellsV = [v]) : SF Try.prog 65 [v] h R W fun r g => r = .func 76 [] [.ptr (some (h.n, 0))] ∧ g = h.push (.cells (Blk.of [v]) 23) := by
 refine SF.go hm Try.func65 ir65_eq ?_
 simp -implicitDefEqProofs (disch := (first | omega | fail)) only [go_sem, seval, ↓reduceIte, reduceCtorEq, ir65, ↓hv]
theorem one76 {l b6 : Nat} {c6 : Blk} {S : Set'} {sp vp : V} {Q : Heap → Prop} (h6 : h.get b6 = some (.cells c6 23)) (hs6 : c6.size = 1) (hv6 : c6.get 0 = sp) (hsp : LR h S sp [vp]) (hvp : vp.one = true) (hR : ∀ b, R b) (hround : SY ⟨Try.prog, true⟩ l [.int .i64 0, vp] h (fun _ => True) (fun b => h.n ≤ b ∨ W b) fun v g => v = .bool true ∧ Q g) :
  SF ⟨Try.prog, true⟩ 76 [.yield l, .ptr (some (b6, 0))] h R W fun _ g => Q g := by
 have hlen := hsp.lenV Try.underlying23
 obtain ⟨b, o, cap, ex, c, ce, hspe, _, hb, hbs, hbg⟩ := hsp.get (i := 0) (by simp)
 simp only [List.length_cons, List.length_nil] at hspe hbs hbg hlen
 have hbg' : c.get o = vp := by simpa using hbg
 rw [hspe] at hv6 hlen
 have hRb := hR b
 have hRb6 := hR b6
 refine SF.go hm Try.func76 ir76_eq ?_
 simp -implicitDefEqProofs (disch := (first | omega | fail)) only [go_sem, seval, ↓reduceIte, reduceCtorEq, ir76, h6, hs6, hv6, hRb6, ↓hlen]
 refine GLoop.inv hm (fun k f g => f.mks = [] ∧ f.tm.n = 18 ∧ f.tm.get 0 = some (.yield l) ∧ f.tm.get 5 = some (.slice (some (b, o)) 1 cap ex) ∧ f.tm.get 6 = some (.int .i64 ((1 : Nat) : Int)) ∧ ∃ j : Nat, j + k = 1 ∧ f.tm.get 7 = some (.int .i64 j) ∧ ((j = 0 ∧ g = h) ∨ (j = 1 ∧ Q g))) 1 ?_ ?_
 ·exact ⟨rfl, rfl, by simp -implicitDefEqProofs (disch := (first | omega | fail)) only [go_sem, seval, ↓reduceIte], by simp -implicitDefEqProofs (disch := (first | omega | fail)) only [go_sem, seval, ↓reduceIte, reduceCtorEq], by simp -implicitDefEqProofs (disch := (first | omega | fail)) only [go_sem, seval, ↓reduceIte, reduceCtorEq], 0, by omega, by simp -implicitDefEqProofs (disch := (first | omega | fail)) only [go_sem, Nat.reduceMod, Nat.reduceDiv, ↓reduceIte, reduceCtorEq]; rfl, .inl ⟨rfl, rfl⟩⟩
 rintro k ⟨⟨n, tr⟩, mks⟩ g ⟨hmk, hn, t0, t5, t6, j, hjk, t7, hI⟩
 simp only [Tm.get_mk] at hmk hn t0 t5 t6 t7
 subst hmk hn
 have lt1 : ¬ (1 : Int) < ((1 : Nat) : Int) := by decide
 have lt0 : (0 : Int) < ((1 : Nat) : Int) := by decide
 rcases hI with ⟨rfl, rfl⟩ | ⟨rfl, hq⟩
 ·simp -implicitDefEqProofs (disch := (first | omega | fail)) only [go_sem, seval, ↓reduceIte, reduceCtorEq, ir76_l0, t0, t5, t6, t7, hb, hRb, hbg']
  refine GYield.of (SY.foot hround (fun b _ => .inr (hR b)) fun b hb => hb) ?_
  rintro v g' ⟨rfl, hq⟩
  simp -implicitDefEqProofs (disch := (first | omega | fail)) only [go_sem, seval, ↓reduceIte, reduceCtorEq, t0, t5, t6, t7]
  exact ⟨0, by omega, 1, by omega, by simp, .inr ⟨rfl, hq⟩⟩
 ·simp -implicitDefEqProofs (disch := (first | omega | fail)) only [go_sem, seval, ↓reduceIte, ir76_l0, t6, t7]
  exact hq
structure Grow (a : Nat) (g g' : Heap) : Prop where
 n : g.n ≤ g'.n
 lo : ∀ b, b < a → g'.get b = g.get b
 c : ∀ b c e, g.get b = some (.cells c e) → g'.get b = some (.cells c e)
set_option maxHeartbeats 4000000 in
theorem pass64 {y n0 lb fb : Nat} {l : List V} {L : List Te} {Wy : Set'} {J : Heap → Prop} (hp : PassAt h n0 lb fb L l) (hby : Byt l) (hl6 : l.length ≤ 1000) (hR : ∀ b, R b) (hwy : ∀ b, Wy b → b < h.n ∧ W b)
  (hJ : ∀ g g', J g → Grow h.n g g' → J g')
  (hround : ∀ g v, h.n ≤ g.n → (∀ b, b < h.n → g.get b = h.get b) → Own h.n g v l 5 → SY ⟨Try.prog, true⟩ y [.int .i64 0, v] g (fun _ => True) (fun b => g.n ≤ b ∨ Wy b) fun r g' => r = .bool true ∧ J g') :
  SF ⟨Try.prog, true⟩ 64 [.yield y, .ptr (some (lb, 0)), .ptr (some (fb, 0))] h R W fun _ g => if matchP L l then J g else h.n ≤ g.n ∧ ∀ b, b < h.n → g.get b = h.get b := by
 obtain ⟨⟨cf, f1, f2, f3⟩, ⟨cl, sp, d1, d2, d3, d4⟩, hf⟩ := hp
 have hlf := Heap.lt_of_get f1
 have hll := Heap.lt_of_get d1
 have hslo := d3.lr.one
 have hslc := d3.lr.cells
 have hfo := f3.lr.one
 have hRlb := hR lb
 refine SF.go hm Try.func64 ir64_eq ?_
 simp -implicitDefEqProofs (disch := (first | omega | (simp -implicitDefEqProofs only [szs, ne_eq] <;> omega) | fail)) only [go_sem, seval, ↓reduceIte, reduceCtorEq, ir64, d1, d2, hRlb]
 refine GCall.of (ok65 hslc).any ?_
 rintro r g1 ⟨rfl, rfl⟩
 obtain ⟨g1, e1⟩ : ∃ g1, g1 = (h.push (.cells (Blk.of [V.yield y]) 124)).push (.cells (Blk.of [cl.get 0]) 23) := ⟨_, rfl⟩
 rw [← e1]
 have n1 : g1.n = h.n + 2 := by rw [e1]; simp
 have k1 : ∀ b, b < h.n → g1.get b = h.get b := fun b hb => by rw [e1, w_push_ne (by simp; omega), w_push_ne (by omega)]
 have y1 : g1.get h.n = some (.cells (Blk.of [V.yield y]) 124) := by rw [e1, w_push_ne (by simp)]; exact w_push_eq rfl _
 have s1 : g1.get (h.n + 1) = some (.cells (Blk.of [cl.get 0]) 23) := by rw [e1]; exact w_push_eq (by simp) _
 clear e1
 simp -implicitDefEqProofs (disch := (first | omega | (simp -implicitDefEqProofs only [szs, ne_eq] <;> omega) | fail)) only [go_sem, seval, ↓reduceIte, reduceCtorEq]
 obtain ⟨tr, etr⟩ : ∃ tr, tr = (((Tr.nil.node (some (V.func 76 [] [V.ptr (some (h.n + 1, 0))])) Tr.nil).node (some (V.ptr (some (h.n, 0)))) Tr.nil).node (some (V.ptr (some (lb, 0)))) Tr.nil).node (some (V.yield y)) (Tr.nil.node (some (V.ptr (some (fb, 0)))) (Tr.nil.node (some (cl.get 0)) Tr.nil)) := ⟨_, rfl⟩
 rw [← etr]
 have t2 : tr.get 2 = some (.ptr (some (fb, 0))) := by rw [etr]; rfl
 have t3 : tr.get 3 = some (.ptr (some (h.n, 0))) := by rw [etr]; rfl
 have t7 : tr.get 7 = some (.func 76 [] [.ptr (some (h.n + 1, 0))]) := by rw [etr]; rfl
 clear etr
 refine GRange.outer (k := 76) (xs := []) (ys := [.ptr (some (h.n + 1, 0))]) (by simp -implicitDefEqProofs (disch := (first | omega | (simp -implicitDefEqProofs only [szs, ne_eq] <;> omega) | fail)) only [go_sem, seval, t7]) ca_76 ?_
 obtain ⟨g2, e2⟩ : ∃ g2, g2 = (g1.push (.deferred true)).push (.loop ⟨.ready, none, ⟨21, tr⟩, [8, 9], (rc64 0).1, (rc64 0).2, g1.n⟩) := ⟨_, rfl⟩
 rw [show (([] ++ [V.yield (g1.n + 1)]) ++ [.ptr (some (h.n + 1, 0))] : List V) = [V.yield (g1.n + 1), .ptr (some (h.n + 1, 0))] from rfl, show (#[8, 9] : Array Tmp).toList = [8, 9] from rfl, ← e2]
 have n2 : g2.n = h.n + 4 := by rw [e2]; simp; omega
 have k2 : ∀ b, b < g1.n → g2.get b = g1.get b := fun b hb => by rw [e2, w_push_ne (by simp; omega), w_push_ne (by omega)]
 have m2 : g2.get g1.n = some (.deferred true) := by rw [e2, w_push_ne (by simp)]; exact w_push_eq rfl _
 have l2 : g2.get (g1.n + 1) = some (.loop ⟨.ready, none, ⟨21, tr⟩, [8, 9], (rc64 0).1, (rc64 0).2, g1.n⟩) := by rw [e2]; exact w_push_eq (by simp) _
 clear e2
 rw [n1] at m2 l2 k2 ⊢
 have kh2 : ∀ b, b < h.n → g2.get b = h.get b := fun b hb => by rw [k2 b (by omega), k1 b hb]
 have d3' : Own n0 g2 (cl.get 0) [sp] 36 := d3.old kh2
 have d4' : Own n0 g2 sp l 5 := d4.old kh2
 have s2 := (k2 _ (by omega)).trans s1
 have y2 := (k2 _ (by omega)).trans y1
 have hpo := d4.lr.one
 have hpc := d4.lr.cells
 refine SF.mono (one76 (Q := fun g => ∃ g3, h.n + 4 ≤ g3.n ∧ g3.n ≤ g.n ∧ (∀ b, b ≠ h.n + 3 → b < g3.n → g.get b = g3.get b) ∧ g.get (h.n + 3) = some (.loop ⟨.ready, none, ⟨21, tr⟩, [8, 9], (rc64 0).1, (rc64 0).2, h.n + 2⟩) ∧ g.get (h.n + 2) = some (.deferred true) ∧ (∃ lo, g3.get (h.n + 3) = some (.loop lo)) ∧ (if matchP L l then J g3 else ∀ b, b < h.n → g3.get b = h.get b)) s2 rfl rfl d3'.lrf hpo (fun b => .inr (hR b)) ?_) ?_
 ·refine SY.go hm l2 trivial (.inr (.inl (by omega))) rfl ir64_a0_eq ir64_b0_eq ?_
  simp -implicitDefEqProofs (disch := (first | omega | (simp -implicitDefEqProofs only [szs, ne_eq] <;> omega) | fail)) only [go_sem, seval, ↓reduceIte, ir64_a0]
  refine ⟨_, l2, rfl, ?_⟩
  obtain ⟨G, eG⟩ : ∃ G, G = g2.set (h.n + 2 + 1) (O.loop ⟨.busy, none, ⟨21, tr⟩, [8, 9], (rc64 0).1, (rc64 0).2, h.n + 2⟩) := ⟨_, rfl⟩
  rw [← eG]
  have nG : G.n = h.n + 4 := by rw [eG]; simp; omega
  have kG : ∀ b, b ≠ h.n + 3 → G.get b = g2.get b := fun b hb => by rw [eG]; exact w_set_ne (by omega) hb _
  have lG : G.get (h.n + 2 + 1) = some (.loop ⟨.busy, none, ⟨21, tr⟩, [8, 9], (rc64 0).1, (rc64 0).2, h.n + 2⟩) := by rw [eG]; exact w_set_eq (by omega) rfl _
  clear eG
  have khG : ∀ b, b < h.n → G.get b = h.get b := fun b hb => by rw [kG b (by omega), kh2 b hb]
  have yG := (kG _ (by omega)).trans y2
  have fG := (khG fb hlf).trans f1
  have f3G := f3.old khG
  have d4G := d4.old khG
  have hRfb := hR fb
  have hRn := hR h.n
  simp -implicitDefEqProofs (disch := (first | omega | (simp -implicitDefEqProofs only [szs, ne_eq] <;> omega) | fail)) only [go_sem, seval, ↓reduceIte, ir64_b0, t2, fG, f2]
  refine GCallD.of (R' := fun _ => True) (W' := fun _ => False) (((match_ok (R := fun _ => True) (W := fun _ => False) d4G.lrf hby f3G.lrf (fun _ => trivial)).any.kept).foot (fun _ h => h) (fun _ h => h)) ?_
  rintro r G2 ⟨⟨rfl, n3, k3⟩, vf3⟩
  have yG2 := (k3 h.n (by omega)).trans yG
  have d4G2 := d4G.old k3
  have lG2 := (k3 _ (by omega)).trans lG
  have mG2 := (k3 (h.n + 2) (by omega)).trans ((kG _ (by omega)).trans m2)
  have khG2 : ∀ b, b < h.n → G2.get b = h.get b := fun b hb => by rw [k3 b (by omega), khG b hb]
  cases hm : matchP L l
  ·simp -implicitDefEqProofs (disch := (first | omega | (simp -implicitDefEqProofs only [szs, ne_eq] <;> omega) | fail)) only [go_sem, seval, ↓reduceIte, undefV]
   refine ⟨⟨fun b _ h => h.2, fun b h => h.2.elim⟩, fun b _ h => h.elim, _, lG2, rfl, G2, by omega, Nat.le_refl _, fun b hb hlt => w_set_ne (by omega) hb _, rfl, mG2, ⟨_, lG2⟩, khG2⟩
  ·simp -implicitDefEqProofs (disch := (first | omega | (simp -implicitDefEqProofs only [szs, ne_eq] <;> omega) | fail)) only [go_sem, seval, ↓reduceIte, t3, yG2, undefV]
   refine GCallD.of (R' := fun _ => True) (W' := fun _ => False) (((clone63 (R := fun _ => True) (W := fun _ => False) d4G2.lrf (fun _ => trivial) (by omega) (allOne_byt hby)).any.kept).foot (fun _ h => h) (fun _ h => h)) ?_
   rintro r G3 ⟨⟨hr, k5⟩, vf5⟩
   have n5 := vf5.n
   have hro := hr.lr.one
   have hrc := hr.lr.cells
   have khG3 : ∀ b, b < h.n → G3.get b = h.get b := fun b hb => by rw [k5 b (by omega), khG2 b hb]
   simp -implicitDefEqProofs (disch := (first | omega | (simp -implicitDefEqProofs only [szs, ne_eq] <;> omega) | fail)) only [go_sem, seval, ↓reduceIte]
   refine GRows.yield (R' := fun _ => True) (W' := fun b => G3.n ≤ b ∨ Wy b) (by simp -implicitDefEqProofs (disch := (first | omega | (simp -implicitDefEqProofs only [szs, ne_eq] <;> omega) | fail)) only [go_sem, seval, ↓reduceIte]) (by simp -implicitDefEqProofs (disch := (first | omega | (simp -implicitDefEqProofs only [szs, ne_eq] <;> omega) | fail)) only [go_sem, seval, ↓reduceIte]) (SY.monoV (hround G3 r (by omega) khG3 (hr.mono (by omega))) fun v g' q vf => (⟨q, vf⟩ : (v = .bool true ∧ J g') ∧ VF G3 g' _)) rfl ?_ ?_ ?_
   ·change pairsP _ [(4, 7), (5, 7)]
    simp -implicitDefEqProofs (disch := (first | omega | (simp -implicitDefEqProofs only [szs, ne_eq] <;> omega) | fail)) only [go_sem, seval]
    exact ⟨⟨fun b h _ => h.elim (fun h => List.not_mem_nil h.2) fun h => by omega, fun b h => h.2.elim⟩, fun b h _ => h.elim (fun h => List.not_mem_nil h.2) fun h => by omega, fun b h => h.2.elim⟩
   ·simp -implicitDefEqProofs (disch := (first | omega | (simp -implicitDefEqProofs only [szs, ne_eq] <;> omega) | fail)) only [go_sem, seval]
    exact ⟨fun b _ h => h.elim, fun b _ h => h.elim, fun b hb h => h.elim (fun h => by omega) fun h => .inr (.inr (hwy b h).2)⟩
   ·rintro v G4 ⟨⟨rfl, hj⟩, vf⟩
    have vg : ∀ b, h.n ≤ b → b < G3.n → G4.get b = G3.get b := fun b h1 h2 => vf.get b h2 fun hc => by
     rcases hc with hc | hc
     ·omega
     ·have := (hwy b hc).1; omega
    have n4 := vf.n
    have lG4 := (vg (h.n + 2 + 1) (by omega) (by omega)).trans ((k5 _ (by omega)).trans lG2)
    have mG4 := (vg (h.n + 2) (by omega) (by omega)).trans ((k5 _ (by omega)).trans mG2)
    simp -implicitDefEqProofs (disch := (first | omega | (simp -implicitDefEqProofs only [szs, ne_eq] <;> omega) | fail)) only [go_sem, seval, ↓reduceIte]
    refine ⟨⟨⟨fun b h _ => h.elim (fun h => List.not_mem_nil h.2) fun h => by omega, fun b h => h.2.elim⟩, fun b h _ => h.elim (fun h => List.not_mem_nil h.2) fun h => by omega, fun b h => h.2.elim⟩, ⟨fun b _ h => h.elim, fun b _ h => h.elim, fun b hb h => h.elim (fun h => by omega) fun h => .inr (.inr (hwy b h).2)⟩, _, lG4, rfl, G4, by omega, Nat.le_refl _, fun b hb hlt => w_set_ne (by omega) hb _, rfl, mG4, ⟨_, lG4⟩, hj⟩
 ·rintro v g ⟨g3, hn3, hn, hk, hl, hmk, ⟨lo, hlo⟩, hq⟩
  refine ⟨_, hl, by simp, .inl (by omega), ?_⟩
  have hw2 : h.n ≤ h.n + 2 ∨ W (h.n + 2) := .inl (by omega)
  simp -implicitDefEqProofs (disch := (first | omega | (simp -implicitDefEqProofs only [szs, ne_eq] <;> omega) | fail)) only [go_sem, seval, hmk]
  obtain ⟨g4, e4⟩ : ∃ g4, g4 = (g.set (h.n + 2 + 1) (O.loop ⟨.exhausted, none, ⟨21, tr⟩, [8, 9], (rc64 0).1, (rc64 0).2, h.n + 2⟩)).set (h.n + 2) (O.deferred false) := ⟨_, rfl⟩
  rw [← e4]
  have k4 : ∀ b, b ≠ h.n + 2 → b ≠ h.n + 3 → g4.get b = g.get b := fun b h1 h2 => by
   rw [e4, w_set_ne (by simp; omega) h1, w_set_ne (by omega) (by omega)]
  have n4 : g4.n = g.n := by rw [e4]; simp
  by_cases hm : matchP L l = true
  ·rw [if_pos hm] at hq ⊢
   refine hJ g3 g4 hq ⟨by omega, fun b hb => ?_, fun b c e hb => ?_⟩
   ·rw [k4 b (by omega) (by omega), hk b (by omega) (by omega)]
   ·have := Heap.lt_of_get hb
    have x2 : b ≠ h.n + 2 := fun e => by rw [e, ← hk (h.n + 2) (by omega) (by omega), hmk] at hb; cases hb
    have x3 : b ≠ h.n + 3 := fun e => by rw [e, hlo] at hb; cases hb
    rw [k4 b x2 x3, hk b x3 this]; exact hb
  ·rw [if_neg hm] at hq ⊢
   refine ⟨by omega, fun b hb => ?_⟩
   rw [k4 b (by omega) (by omega), hk b (by omega) (by omega)]; exact hq b hb
end Go.Proofs.Ytmimialblhlklaa
