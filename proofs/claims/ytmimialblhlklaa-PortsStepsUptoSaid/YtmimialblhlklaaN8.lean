/- Ring of the program: going over a ring. -/
import Derived.Test.YtmimialblhlklaaRN
set_option linter.unusedVariables false
set_option maxRecDepth 100000
namespace Go.Proofs.Ytmimialblhlklaa
open Go Go.Vm
variable {h : Heap} {W : Set'} {M : Set'} {pp : Nat} {qs : List Nat} {S : AT}
def ringOf (S : AT) (a n : Int) : List (List V) := ringO (lookA S a n)
theorem ok72 {R : Set'} (p a n : V) (hp : p.cellsV = [p]) (ha : a.cellsV = [a]) (hn : n.cellsV = [n]) : SF Try.prog 72 [p, a, n] h R W fun r g => r = .func 79 [] [.ptr (some (h.n, 0)), .ptr (some (h.n + 1, 0)), .ptr (some (h.n + 2, 0))] ∧ g = ((h.push (.cells (Blk.of [p]) 26)).push (.cells (Blk.of [a]) 3)).push (.cells (Blk.of [n]) 3) := by
 refine SF.go hm Try.func72 ir72_eq ?_
 simp -implicitDefEqProofs (disch := (first | omega | fail)) only [go_sem, seval, ↓reduceIte, reduceCtorEq, ir72, ↓hp, ↓ha, ↓hn]
def Seq79 (h : Heap) (pv : V) (a n : Int) (ring : List (List V)) : Prop := ∀ (b1 b2 b3 l : Nat) (Rr W : Set') (K : Nat → Heap → Prop) (J : Heap → Prop), (∀ b, Rr b) → h.get b1 = some (.cells (Blk.of [pv]) 26) → h.get b2 = some (.cells (Blk.of [.int .i64 a]) 3) → h.get b3 = some (.cells (Blk.of [.int .i64 n]) 3) → K 0 h →
  (∀ p g g', K p g → g.n ≤ g'.n → (∀ b, b < g.n → g'.get b = g.get b) → K p g') →
  (∀ i g w, i < ring.length → K i g → h.n ≤ g.n → (∃ n', h.n ≤ n' ∧ Own n' g w (ring.getD i []) 5) → SY ⟨Try.prog, true⟩ l [.int .i64 (i : Int), w] g (fun b => h.n ≤ b ∨ Rr b) (fun b => h.n ≤ b ∨ W b) fun v g' => g.n ≤ g'.n ∧ (∀ k, h.n ≤ k → k < g.n → k ≠ sblk w → g'.get k = g.get k) ∧ (v = .bool true ∧ K (i + 1) g' ∨ v = .bool false ∧ J g')) →
  SF ⟨Try.prog, true⟩ 79 [.yield l, .ptr (some (b1, 0)), .ptr (some (b2, 0)), .ptr (some (b3, 0))] h Rr W fun _ g => K ring.length g ∨ J g
set_option maxHeartbeats 4000000 in
theorem seq79 {b1 b2 b3 l : Nat} {a n : Int} {Rr : Set'} (K : Nat → Heap → Prop) (J : Heap → Prop) (hx : PX h M pp qs S) (hR : ∀ b, Rr b) (h1 : h.get b1 = some (.cells (Blk.of [.ptr (some (pp, 0))]) 26)) (h2 : h.get b2 = some (.cells (Blk.of [.int .i64 a]) 3)) (h3 : h.get b3 = some (.cells (Blk.of [.int .i64 n]) 3)) (hK0 : K 0 h)
  (hkeep : ∀ p g g', K p g → g.n ≤ g'.n → (∀ b, b < g.n → g'.get b = g.get b) → K p g')
  (hround : ∀ i g w, i < (ringOf S a n).length → K i g → h.n ≤ g.n → (∃ n', h.n ≤ n' ∧ Own n' g w ((ringOf S a n).getD i []) 5) → SY ⟨Try.prog, true⟩ l [.int .i64 (i : Int), w] g (fun b => h.n ≤ b ∨ Rr b) (fun b => h.n ≤ b ∨ W b) fun v g' => g.n ≤ g'.n ∧ (∀ k, h.n ≤ k → k < g.n → k ≠ sblk w → g'.get k = g.get k) ∧ (v = .bool true ∧ K (i + 1) g' ∨ v = .bool false ∧ J g')) :
  SF ⟨Try.prog, true⟩ 79 [.yield l, .ptr (some (b1, 0)), .ptr (some (b2, 0)), .ptr (some (b3, 0))] h Rr W fun _ g => K (ringOf S a n).length g ∨ J g := by
 obtain ⟨⟨I, mp, T, hp, rfl, hm'⟩, hF, hl⟩ := hx
 have hR1 := hR b1; have hR2 := hR b2; have hR3 := hR b3
 have hb1 := Heap.lt_of_get h1
 have hIl : ∀ k, I k → k < h.n := fun k hk => by obtain ⟨c, e, h1, _⟩ := hp.imm k hk; exact Heap.lt_of_get h1
 refine SF.go hm Try.func79 ir79_eq ?_
 simp -implicitDefEqProofs (disch := (first | omega | fail)) only [go_sem, seval, ↓reduceIte, reduceCtorEq, ir79, undefV, h1, h2, h3, hR1, hR2, hR3]
 refine GCall.of (get_ok hp (.inr (hR _)) (.inr (hR _)) a n).any ?_
 rintro v h' ⟨rfl, rfl⟩
 rcases getV_cases hp a n with ⟨b, x, hlk, he, hg⟩ | ⟨hlk, he, hg⟩
 rotate_left
 ·have hr : ringOf (absT T) a n = [] := by unfold ringOf; rw [lookA_abs, hlk]; rfl
  have hz : (askE qs T a n != 0) = true := by simpa using he
  rw [hg, hr]
  simp -implicitDefEqProofs (disch := (first | omega | fail)) only [go_sem, seval, ↓reduceIte, reduceCtorEq, hz]
  exact .inl hK0
 have hr : ringOf (absT T) a n = x.ring := by unfold ringOf; rw [lookA_abs, hlk]; rfl
 rw [hr] at hround ⊢
 rw [hg]
 simp -implicitDefEqProofs (disch := (first | omega | fail)) only [go_sem, seval, ↓reduceIte, reduceCtorEq]
 have hT := (lookT_some hlk).2.2
 have hpt := hp.pt _ _ _ _ hT
 have hx8 := hpt.len
 refine GCall.of (((packets51 (R := fun _ => True) (W := fun _ => False) hpt hIl (hF.of _ _ _ _ hT).2 (fun _ => trivial)).any).foot (fun b _ => .inr (hR b)) (fun _ h => h.elim)) ?_
 rintro v g0 ⟨n0, k0, sl, hv⟩
 have hvl := hv.ring.lenV
 simp -implicitDefEqProofs (disch := (first | omega | fail)) only [go_sem, seval, ↓reduceIte, reduceCtorEq, ↓hvl]
 refine GLoop.inv hm (fun k f g => f.mks = [] ∧ f.tm.n = 32 ∧ f.tm.get 0 = some (.yield l) ∧ f.tm.get 19 = some v ∧ f.tm.get 20 = some (.int .i64 (x.ring.length : Int)) ∧ h'.n ≤ g.n ∧ ∃ i : Nat, i + k = x.ring.length ∧ f.tm.get 21 = some (.int .i64 (i : Int)) ∧ K i g ∧ Own h'.n g v sl 36 ∧ ∀ j w, i ≤ j → sl[j]? = some w → ∃ n', h'.n ≤ n' ∧ Own n' g w (x.ring.getD j []) 5 ∧ ∀ j' w', j' < j → sl[j']? = some w' → sblk w' = 0 ∨ sblk w' < n') x.ring.length ?_ ?_
 ·exact ⟨rfl, rfl, by simp -implicitDefEqProofs (disch := (first | omega | fail)) only [go_sem, seval, ↓reduceIte], by simp -implicitDefEqProofs (disch := (first | omega | fail)) only [go_sem, seval, ↓reduceIte, reduceCtorEq], by simp -implicitDefEqProofs (disch := (first | omega | fail)) only [go_sem, seval, ↓reduceIte, reduceCtorEq], n0, 0, by omega, by simp -implicitDefEqProofs (disch := (first | omega | fail)) only [go_sem, Nat.reduceSub, Nat.reduceMod, Nat.reduceDiv, ↓reduceIte, reduceCtorEq]; rfl, hkeep _ _ _ hK0 n0 k0, hv.o, fun j w _ e => hv.p j w e⟩
 rintro k ⟨⟨n', tr⟩, mks⟩ g ⟨hmk, hn', t0, t19, t20, hgn, i, hik, t21, hK, ho, hpk⟩
 simp only [Tm.get_mk] at hmk hn' t0 t19 t20 t21
 subst hmk hn'
 by_cases hi : i < x.ring.length
 rotate_left
 ·have hz : ¬ (i : Int) < (x.ring.length : Int) := by omega
  obtain rfl : i = x.ring.length := by omega
  simp -implicitDefEqProofs (disch := (first | omega | fail)) only [go_sem, seval, ↓reduceIte, ir79_l0, t20, t21, hz]
  exact .inl hK
 have hz : (i : Int) < (x.ring.length : Int) := by omega
 have hi0 : (0 : Int) ≤ (i : Int) := by omega
 have hsl := hv.l
 obtain ⟨bb, xb, cb, rfl, hbb, hbg, hbs, hbr, hbget, hbgets⟩ := ho.get (i := i) (by omega)
 have hsi : i < sl.length := by omega
 have hw : sl[i]? = some sl[i] := List.getElem?_eq_getElem hsi
 rw [List.getD_eq_getElem?_getD, hw, Option.getD_some] at hbget
 obtain ⟨n1, q1, q2, q3⟩ := hpk i _ (Nat.le_refl _) hw
 generalize sl[i] = w at hw hbget q2
 have hwo := q2.lr.one
 have hRbb := hR bb
 have hsz : i < cb.size := by omega
 rw [hsl] at t19
 simp -implicitDefEqProofs (disch := (first | omega | fail)) only [go_sem, seval, ↓reduceIte, reduceCtorEq, ir79_l0, t0, t19, t20, t21, hz, hi0, hbg, hRbb, hbget]
 refine GYield.of (hround i g w hi hK hgn ⟨n1, q1, q2⟩) ?_
 rintro v g2 ⟨hn2, hk2, hd⟩
 have hne : bb ≠ sblk w := fun e => by
  rcases q2 with ⟨_, rfl | ⟨b5, c5, rfl, q5, q6, _⟩⟩ | ⟨b5, x5, c5, _, rfl, q5, q6, _⟩
  ·simp only [sblk] at e; omega
  ·simp only [sblk] at e; rw [e, q6] at hbg; cases hbg
  ·simp only [sblk] at e; rw [e, q6] at hbg; cases hbg
 rcases hd with ⟨rfl, hK2⟩ | ⟨rfl, hJ⟩
 ·simp -implicitDefEqProofs (disch := (first | omega | fail)) only [go_sem, seval, ↓reduceIte, reduceCtorEq, t0, t19, t20, t21]
  refine ⟨k - 1, by omega, by rw [hsl], by omega, i + 1, by omega, by simp, hK2, ?_, fun j w' hj e => ?_⟩
  ·exact .inr ⟨bb, xb, cb, by intro h; rw [h] at hsi; simp at hsi, rfl, hbb, by rw [hk2 bb hbb (Heap.lt_of_get hbg) hne]; exact hbg, hbs, hbr, hbgets⟩
  ·obtain ⟨n3, p1, p2, p3⟩ := hpk j w' (by omega) e
   refine ⟨n3, p1, Own.ofS ((Own.toS p2).keep fun b c hb hn => ?_), p3⟩
   rw [hk2 b (by omega) (Heap.lt_of_get hb) fun e => ?_]; exact hb
   rcases p3 i w (by omega) hw with p4 | p4 <;> omega
 ·simp -implicitDefEqProofs (disch := (first | omega | fail)) only [go_sem, seval, ↓reduceIte]
  exact .inr hJ
theorem seq79_px (hx : PX h M pp qs S) (a n : Int) : Seq79 h (.ptr (some (pp, 0))) a n (ringOf S a n) := fun _ _ _ _ _ _ K J hR h1 h2 h3 hK0 hkeep hround => seq79 K J hx hR h1 h2 h3 hK0 hkeep hround
end Go.Proofs.Ytmimialblhlklaa
namespace Go.Proofs.Ytmimialblhlklaa
open Go Go.Vm
variable {h : Heap} {R W : Set'} {pv : V} {ring : List (List V)}
set_option maxHeartbeats 4000000 in
theorem range79 {Q : Ex → Fr → Heap → Prop} {t : List It} {mks : List Nat} {tr : Tr V} {b1 b2 b3 : Nat} {a n : Int} (W2 : Set') (K : Nat → Heap → Prop) (E : Ex → Heap → Prop)
  (t27 : tr.get 27 = some (.func 79 [] [.ptr (some (b1, 0)), .ptr (some (b2, 0)), .ptr (some (b3, 0))])) (hx : ∀ g, h.n ≤ g.n → (∀ k, k < h.n → g.get k = h.get k) → Seq79 g pv a n ring) (h1 : h.get b1 = some (.cells (Blk.of [pv]) 26)) (h2 : h.get b2 = some (.cells (Blk.of [.int .i64 a]) 3)) (h3 : h.get b3 = some (.cells (Blk.of [.int .i64 n]) 3))
  (hR : ∀ b, R b) (hW : ∀ b, h.n ≤ b ∨ W2 b → W b) (hK0 : K 0 h)
  (hkeep : ∀ p g g', K p g → g.n ≤ g'.n → (∀ b, b < g.n → b ≠ h.n → b ≠ h.n + 1 → g'.get b = g.get b) → K p g')
  (hE : ∀ e g g', E e g → g.n ≤ g'.n → (∀ b, b < g.n → b ≠ h.n → b ≠ h.n + 1 → g'.get b = g.get b) → E e g')
  (hround : ∀ (W' : Set') (Q' : Ex → Fr → Heap → Prop) (tr' : Tr V) (i : Nat) (g : Heap) (w : V), (∀ b, h.n + 2 ≤ b ∨ W2 b → W' b) → i < ring.length → K i g → h.n + 2 ≤ g.n → (∃ n', h.n + 2 ≤ n' ∧ Own n' g w (ring.getD i []) 5) →
   tr'.get 14 = some (.int .i64 (i : Int)) → tr'.get 15 = some w → tr'.get 8 = tr.get 8 → tr'.get 9 = tr.get 9 → tr'.get 10 = tr.get 10 → tr'.get 12 = tr.get 12 → tr'.get 13 = tr.get 13 →
   (∀ f2 g2, g.n ≤ g2.n → (∀ k, h.n ≤ k → k < g.n → k ≠ sblk w → g2.get k = g.get k) → K (i + 1) g2 → Q' .norm f2 g2) →
   (∀ e f2 g2, e ≠ .norm → g.n ≤ g2.n → (∀ k, h.n ≤ k → k < g.n → k ≠ sblk w → g2.get k = g.get k) → E e g2 → Q' e f2 g2) →
   GO ⟨Try.prog, true⟩ (fun _ => True) W' (some (h.n + 1)) Q' [.code ir59_b0] ⟨⟨91, tr'⟩, []⟩ g)
  (hend : ∀ g, K ring.length g → h.n + 2 ≤ g.n → g.get h.n = some (.deferred true) → GO ⟨Try.prog, true⟩ R W none Q t ⟨⟨91, tr⟩, h.n :: mks⟩ g)
  (hexit : ∀ e g, E e g → e ≠ .norm → h.n + 2 ≤ g.n → g.get h.n = some (.deferred true) → resume ⟨Try.prog, true⟩ R W none Q t e ⟨⟨91, tr⟩, h.n :: mks⟩ g) :
  GRange ⟨Try.prog, true⟩ R W none Q (.tmp 27) #[28, 29] (rc59 0).1 (rc59 0).2 t ⟨⟨91, tr⟩, mks⟩ h := by
 refine GRange.outer (k := 79) (xs := []) (ys := [.ptr (some (b1, 0)), .ptr (some (b2, 0)), .ptr (some (b3, 0))]) (by simp -implicitDefEqProofs (disch := (first | omega | fail)) only [go_sem, seval, t27]) ca_79 ?_
 obtain ⟨hA, eA⟩ : ∃ hA, hA = (h.push (.deferred true)).push (.loop ⟨.ready, none, ⟨91, tr⟩, [28, 29], (rc59 0).1, (rc59 0).2, h.n⟩) := ⟨_, rfl⟩
 rw [show (([] ++ [V.yield (h.n + 1)]) ++ [.ptr (some (b1, 0)), .ptr (some (b2, 0)), .ptr (some (b3, 0))] : List V) = [V.yield (h.n + 1), .ptr (some (b1, 0)), .ptr (some (b2, 0)), .ptr (some (b3, 0))] from rfl, show (#[28, 29] : Array Tmp).toList = [28, 29] from rfl, ← eA]
 have nA : hA.n = h.n + 2 := by rw [eA]; simp
 have kA : ∀ b, b < h.n → hA.get b = h.get b := fun b hb => by rw [eA, w_push_ne (by simp; omega), w_push_ne (by omega)]
 have mA : hA.get h.n = some (.deferred true) := by rw [eA, w_push_ne (by simp)]; exact w_push_eq rfl _
 have lA : hA.get (h.n + 1) = some (.loop ⟨.ready, none, ⟨91, tr⟩, [28, 29], (rc59 0).1, (rc59 0).2, h.n⟩) := by rw [eA]; exact w_push_eq (by simp) _
 clear eA
 have jn : ∀ e : Ex, e ≠ .norm → e.jump.isNone = false := fun e he => by cases e <;> first | exact absurd rfl he | rfl
 refine SF.mono (SF.foot (hx hA (by omega) kA b1 b2 b3 (h.n + 1) (fun _ => True) (fun b => W2 b ∨ b = h.n + 1 ∨ b = h.n)
  (fun i g => h.n + 2 ≤ g.n ∧ g.get h.n = some (.deferred true) ∧ g.get (h.n + 1) = some (.loop ⟨.ready, none, ⟨91, tr⟩, [28, 29], (rc59 0).1, (rc59 0).2, h.n⟩) ∧ K i g)
  (fun g => h.n + 2 ≤ g.n ∧ g.get h.n = some (.deferred true) ∧ ∃ e : Ex, e ≠ .norm ∧ g.get (h.n + 1) = some (.loop ⟨.done, e.jump, ⟨91, tr⟩, [28, 29], (rc59 0).1, (rc59 0).2, h.n⟩) ∧ E e g)
  (fun _ => trivial) ((kA _ (Heap.lt_of_get h1)).trans h1) ((kA _ (Heap.lt_of_get h2)).trans h2) ((kA _ (Heap.lt_of_get h3)).trans h3)
  ⟨by omega, mA, lA, hkeep _ _ _ hK0 (by omega) fun b hb _ _ => kA b hb⟩
  (fun p g g' ⟨i1, i2, i3, i4⟩ j1 j2 => ⟨by omega, by rw [j2 _ (by omega)]; exact i2, by rw [j2 _ (by omega)]; exact i3, hkeep _ _ _ i4 j1 fun b hb _ _ => j2 b hb⟩)
  ?_) (fun b _ => hR b) (fun b hb => ?_)) ?_
 ·rintro i g w hi ⟨i1, i2, i3, i4⟩ hgn ⟨n', q1, q2⟩
  rw [nA] at q1 hgn
  refine SY.go hm i3 (.inr trivial) (.inr (.inr (.inl rfl))) (tm := ((⟨91, tr⟩ : Tm).set 28 (.int .i64 (i : Int))).set 29 w) rfl ir59_a0_eq ir59_b0_eq ?_
  simp -implicitDefEqProofs (disch := (first | omega | fail)) only [go_sem, seval, ↓reduceIte, ir59_a0]
  refine ⟨_, i3, rfl, ?_⟩
  have hk2 : ∀ o b, b ≠ h.n + 1 → (g.set (h.n + 1) o).get b = g.get b := fun o b hb => w_set_ne (by omega) hb _
  have key : ∀ (b : O), g.n = (g.set (h.n + 1) b).n := fun b => by rw [Heap.n_set]
  obtain ⟨n1, p1, p2⟩ : ∃ n1, h.n + 2 ≤ n1 ∧ Own n1 (g.set (h.n + 1) (.loop ⟨.busy, none, ⟨91, tr⟩, [28, 29], (rc59 0).1, (rc59 0).2, h.n⟩)) w (ring.getD i []) 5 := ⟨n', q1, Own.ofS ((Own.toS q2).keep fun b c hb hn => by rw [hk2 _ b (by omega)]; exact hb)⟩
  have hsw : sblk w = 0 ∨ h.n + 2 ≤ sblk w := (Own.toS p2).sblk.imp id fun h => by omega
  have hpos : 0 < h.n := by have := Heap.lt_of_get h1; omega
  refine hround _ _ _ i _ w (fun b hb => hb.elim (fun hb => .inl (by omega)) fun hb => .inr (.inl hb)) hi (hkeep i g _ i4 (by rw [Heap.n_set]; omega) fun b _ _ h3 => hk2 _ b h3) (by rw [Heap.n_set]; exact i1) ⟨n1, p1, p2⟩ (by simp -implicitDefEqProofs (disch := (first | omega | fail)) only [go_sem, seval, ↓reduceIte]) (by simp -implicitDefEqProofs (disch := (first | omega | fail)) only [go_sem, seval, ↓reduceIte]) (by simp -implicitDefEqProofs (disch := (first | omega | fail)) only [go_sem, seval, ↓reduceIte]) (by simp -implicitDefEqProofs (disch := (first | omega | fail)) only [go_sem, seval, ↓reduceIte]) (by simp -implicitDefEqProofs (disch := (first | omega | fail)) only [go_sem, seval, ↓reduceIte]) (by simp -implicitDefEqProofs (disch := (first | omega | fail)) only [go_sem, seval, ↓reduceIte]) (by simp -implicitDefEqProofs (disch := (first | omega | fail)) only [go_sem, seval, ↓reduceIte]) (fun f2 h2 m1 m2 m3 => ?_) (fun e f2 h2 m0 m1 m2 m3 => ?_)
  ·rw [Heap.n_set] at m1
   have l2 := (m2 (h.n + 1) (by omega) (by rw [Heap.n_set]; omega) (by omega)).trans (w_set_eq (by omega) rfl _)
   have d2 := (m2 h.n (by omega) (by rw [Heap.n_set]; omega) (by omega)).trans ((hk2 _ _ (by omega)).trans i2)
   refine ⟨_, l2, m1, fun k h1 h2 h3 => ?_, .inl ⟨rfl, by omega, by rw [w_set_ne (by omega) (by omega)]; exact d2, w_set_eq (by omega) rfl _, hkeep _ _ _ m3 (by rw [Heap.n_set]; omega) fun b _ _ h3 => w_set_ne (by omega) h3 _⟩⟩
   rw [w_set_ne (by omega) (by omega), m2 k (by omega) (by rw [Heap.n_set]; omega) h3, hk2 _ k (by omega)]
  ·rw [Heap.n_set] at m1
   have l2 := (m2 (h.n + 1) (by omega) (by rw [Heap.n_set]; omega) (by omega)).trans (w_set_eq (by omega) rfl _)
   have d2 := (m2 h.n (by omega) (by rw [Heap.n_set]; omega) (by omega)).trans ((hk2 _ _ (by omega)).trans i2)
   have hj := jn e m0
   refine ⟨_, l2, m1, fun k h1 h2 h3 => ?_, .inr ⟨by rw [hj], by omega, by rw [w_set_ne (by omega) (by omega)]; exact d2, e, m0, by rw [w_set_eq (by omega) rfl, hj]; rfl, hE _ _ _ m3 (by rw [Heap.n_set]; omega) fun b _ _ h3 => w_set_ne (by omega) h3 _⟩⟩
   rw [w_set_ne (by omega) (by omega), m2 k (by omega) (by rw [Heap.n_set]; omega) h3, hk2 _ k (by omega)]
 ·rcases hb with hb | rfl | rfl
  ·exact hW b (.inr hb)
  ·exact hW _ (.inl (by omega))
  ·exact hW _ (.inl (by omega))
 ·rintro v g (⟨i1, i2, i3, i4⟩ | ⟨i1, i2, e, he, i3, i4⟩)
  ·refine ⟨_, i3, by simp, hW _ (.inl (by omega)), ?_⟩
   exact hend _ (hkeep _ _ _ i4 (by rw [Heap.n_set]; omega) fun b _ _ h3 => w_set_ne (by omega) h3 _) (by rw [Heap.n_set]; omega) (by rw [w_set_ne (by omega) (by omega)]; exact i2)
  ·refine ⟨_, i3, by simp, hW _ (.inl (by omega)), ?_⟩
   have hx := hexit e _ (hE _ _ (g.set (h.n + 1) (.loop ⟨.exhausted, e.jump, ⟨91, tr⟩, [28, 29], (rc59 0).1, (rc59 0).2, h.n⟩)) i4 (by rw [Heap.n_set]; omega) fun b _ _ h3 => w_set_ne (by omega) h3 _) he (by rw [Heap.n_set]; omega) (by rw [w_set_ne (by omega) (by omega)]; exact i2)
   cases e with
   | norm => exact absurd rfl he
   | ret => rw [resume_ret] at hx; exact hx
   | exit id => exact hx
end Go.Proofs.Ytmimialblhlklaa
