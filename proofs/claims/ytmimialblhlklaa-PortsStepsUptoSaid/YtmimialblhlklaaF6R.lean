/- Ports: Come's range over Passing. -/
import Derived.Test.YtmimialblhlklaaF6
set_option linter.unusedVariables false
set_option maxRecDepth 100000
namespace Go.Proofs.Ytmimialblhlklaa
open Go Go.Vm
variable {h : Heap} {R W I : Set'} {pp mp : Nat} {qs : List Nat} {T : PT}
structure PutQ (g g' : Heap) (I : Set') (cb b n0 m : Nat) (lc : List V) (n : Nat) (x : Pt) (l : List V) : Prop where
 p : PortAt g' (fun k => I k ∨ Fresh g g' 5 k) b (x.put l)
 c : ∃ c cv', g'.get cb = some (.cells c 37) ∧ c.size = 1 ∧ c.ro = false ∧ c.get 0 = cv' ∧ OwnS 2 n0 g' cv' (m + 1) (lc ++ [.int .i64 (n : Int), .bool (decide (x.ring.length = 8))]) 41
 old : ∀ k, k < g.n → k ≠ cb → k ≠ b → (k < n0 ∨ ∀ c, g.get k ≠ some (.cells c 41)) → g'.get k = g.get k
set_option maxHeartbeats 4000000 in
theorem come_range {Q : Ex → Fr → Heap → Prop} {t : List It} {mks : List Nat} {g : Heap} {I S : Set'} {cb nb xb pb b m n0 n nn lb fb : Nat} {tr : Tr V} {x : Pt} {l lc : List V} {cv : V} (hR : ∀ b, R b) (hW : ∀ k, n0 ≤ k → W k) (hWb : W b)
  (t49 : tr.get 49 = some (.func 64 [] [.ptr (some (lb, 0)), .ptr (some (fb, 0))]))
  (t3 : tr.get 3 = some (.ptr (some (pb, 0)))) (t8 : tr.get 8 = some (.ptr (some (cb, 0)))) (t10 : tr.get 10 = some (.ptr (some (nb, 0)))) (t11 : tr.get 11 = some (.ptr (some (xb, 0))))
  (c8 : ∃ c, g.get cb = some (.cells c 37) ∧ c.size = 1 ∧ c.ro = false ∧ c.get 0 = cv) (ho : OwnS 2 n0 g cv m lc 41) (hn0 : n0 ≤ g.n) (hcb : n0 ≤ cb) (hm : m ≤ 1000)
  (c10 : ∃ c, g.get nb = some (.cells c 3) ∧ c.size = 1 ∧ c.get 0 = .int .i64 (n : Int))
  (c11 : ∃ c, g.get xb = some (.cells c 76) ∧ c.size = 1 ∧ c.get 0 = .ptr (some (b, 0)))
  (c3 : ∃ c v, g.get pb = some (.cells c 36) ∧ c.size = 1 ∧ c.get 0 = v ∧ LR g S v l) (hS : ∀ k, S k → k < n0) (hby : Byt l) (hl64 : l.length ≤ 64)
  (hx : PortAt g I b x) (hIc : ∀ k, I k → (∃ c e, g.get k = some (.cells c e)) ∧ k ≠ b ∧ k ≠ cb ∧ (k < n0 ∨ ∃ c, g.get k = some (.cells c 5)))
  (hpa : PassAt g nn lb fb x.ts l)
  (hk : ∀ g', g'.get g.n = some (.deferred true) → g.n ≤ g'.n → (if matchP x.ts l = true then PutQ g g' I cb b n0 m lc n x l else ∀ k, k < g.n → g'.get k = g.get k) → GO ⟨Try.prog, true⟩ R W none Q t ⟨⟨63, tr⟩, g.n :: mks⟩ g') :
  GRange ⟨Try.prog, true⟩ R W none Q (.tmp 49) #[50, 51] (rc12 0).1 (rc12 0).2 t ⟨⟨63, tr⟩, mks⟩ g := by
 refine GRange.outer (k := 64) (xs := []) (ys := [.ptr (some (lb, 0)), .ptr (some (fb, 0))]) (by simp -implicitDefEqProofs (disch := (first | omega | fail)) only [go_sem, seval, t49]) ca_64 ?_
 obtain ⟨hA, eA⟩ : ∃ hA, hA = (g.push (.deferred true)).push (.loop ⟨.ready, none, ⟨63, tr⟩, [50, 51], (rc12 0).1, (rc12 0).2, g.n⟩) := ⟨_, rfl⟩
 rw [show (([] ++ [V.yield (g.n + 1)]) ++ [.ptr (some (lb, 0)), .ptr (some (fb, 0))] : List V) = [V.yield (g.n + 1), .ptr (some (lb, 0)), .ptr (some (fb, 0))] from rfl, show (#[50, 51] : Array Tmp).toList = [50, 51] from rfl, ← eA]
 have nA : hA.n = g.n + 2 := by rw [eA]; simp
 have kA : ∀ b, b < g.n → hA.get b = g.get b := fun b hb => by rw [eA, w_push_ne (by simp; omega), w_push_ne (by omega)]
 have mA : hA.get g.n = some (.deferred true) := by rw [eA, w_push_ne (by simp)]; exact w_push_eq rfl _
 have lA : hA.get (g.n + 1) = some (.loop ⟨.ready, none, ⟨63, tr⟩, [50, 51], (rc12 0).1, (rc12 0).2, g.n⟩) := by rw [eA]; exact w_push_eq (by simp) _
 clear eA
 obtain ⟨d8, e8, s8, r8, v8⟩ := c8
 obtain ⟨d10, e10, s10, v10⟩ := c10
 obtain ⟨d11, e11, s11, v11⟩ := c11
 obtain ⟨d3, pv, e3, s3, v3, hpv⟩ := c3
 obtain ⟨dx, ex⟩ := hx.cells
 have hlx := Heap.lt_of_get ex
 have hl8 := Heap.lt_of_get e8
 have hIlt : ∀ k, I k → k < g.n := fun k hk => by obtain ⟨⟨c, e, h1⟩, _⟩ := hIc k hk; exact Heap.lt_of_get h1
 have hsb : sblk cv < g.n := by rcases ho.sblk with h0 | h0 <;> omega
 refine SF.mono (SF.foot (pass64 (h := hA) (R := fun _ => True) (W := fun k => n0 ≤ k ∨ k = b) (y := g.n + 1) (Wy := fun k => k = g.n + 1 ∨ k = cb ∨ k = b ∨ (k = sblk cv ∧ n0 ≤ k)) (J := fun g' => hA.n ≤ g'.n ∧ g'.get g.n = some (.deferred true) ∧ g'.get (g.n + 1) = some (.loop ⟨.ready, none, ⟨63, tr⟩, [50, 51], (rc12 0).1, (rc12 0).2, g.n⟩) ∧ PortAt g' (fun k => I k ∨ Fresh hA g' 5 k) b (x.put l) ∧ (∃ c cv', g'.get cb = some (.cells c 37) ∧ c.size = 1 ∧ c.ro = false ∧ c.get 0 = cv' ∧ OwnS 2 n0 g' cv' (m + 1) (lc ++ [.int .i64 (n : Int), .bool (decide (x.ring.length = 8))]) 41) ∧ ∀ k, k < g.n → k ≠ cb → k ≠ b → (k < n0 ∨ ∀ c, g.get k ≠ some (.cells c 41)) → g'.get k = g.get k) (hpa.keep fun k c e h1 _ => (kA k (Heap.lt_of_get h1)).trans h1) hby (by omega) (fun _ => trivial) ?_ ?_ ?_) (fun b _ => hR b) (fun k hk => hk.elim (hW k) fun h => h ▸ hWb)) ?_
 ·rintro k (rfl | rfl | rfl | ⟨rfl, h1⟩)
  ·exact ⟨by omega, .inl (by omega)⟩
  ·exact ⟨by omega, .inl hcb⟩
  ·exact ⟨by omega, .inr rfl⟩
  ·exact ⟨by omega, .inl h1⟩
 ·rintro g1 g2 ⟨j1, j2, j3, j4, ⟨c, cv', j5, j6, j7, j8, j9⟩, j10⟩ ⟨q1, q2, q3⟩
  refine ⟨by omega, by rw [q2 _ (by omega)]; exact j2, by rw [q2 _ (by omega)]; exact j3, ?_, ⟨c, cv', q3 _ _ _ j5, j6, j7, j8, j9.keep fun k c h1 _ => q3 _ _ _ h1⟩, fun k h1 h2 h3 h4 => by rw [q2 k (by omega)]; exact j10 k h1 h2 h3 h4⟩
  refine (j4.same (by rw [q2 b (by omega)]) fun k h1 h2 => ?_).mono fun k h1 => h1.imp id fun ⟨h2, c, h3⟩ => ⟨h2, c, q3 _ _ _ h3⟩
  rcases h1 with h1 | ⟨h1, c, h3⟩
  ·rw [q2 k (by have := hIlt k h1; omega)]
  ·rw [q3 _ _ _ h3, h3]
 ·intro g1 w hn1 hk1 hw
  have kg : ∀ k, k < g.n → g1.get k = g.get k := fun k hk => by rw [hk1 k (by omega), kA k hk]
  refine SY.mono (come_round (S := S) (I := I) (nb := nb) (xb := xb) (pb := pb) (b := b) (m := m) (n0 := n0) (n := n) (mk := g.n) (x := x) (l := l) (lc := lc) (cv := cv) ((hk1 _ (by omega)).trans lA) t3 t8 t10 t11 ⟨d8, (kg _ hl8).trans e8, s8, r8, v8⟩ (ho.old kg) (by omega) hm ⟨d10, (kg _ (Heap.lt_of_get e10)).trans e10, s10, v10⟩ ⟨d11, (kg _ (Heap.lt_of_get e11)).trans e11, s11, v11⟩ ⟨d3, pv, (kg _ (Heap.lt_of_get e3)).trans e3, s3, v3, hpv.old kg⟩ (fun k hk => by have := hS k hk; omega) hby hl64 (hx.same (kg b hlx) fun k hk _ => kg k (hIlt k hk)) (fun k hk => ?_)) ?_
  ·obtain ⟨_, h2, h3, h4⟩ := hIc k hk
   have := hIlt k hk
   exact ⟨h2, by omega, h3, h4.imp id fun ⟨c, e⟩ => ⟨c, (kg k this).trans e⟩⟩
  ·rintro r g2 ⟨rfl, j1, j2, j3, j4, j5⟩
   refine ⟨rfl, by omega, ?_, j2, j3.mono fun k hk => hk.imp id fun ⟨h1, h2⟩ => ⟨by omega, h2⟩, j4, fun k h1 h2 h3 h4 => ?_⟩
   ·rw [j5 g.n (by omega) (by omega) (by omega) (by omega) (.inr fun c e => by rw [hk1 _ (by omega), mA] at e; cases e), hk1 _ (by omega), mA]
   ·rw [j5 k (by omega) (by omega) h2 h3 (h4.imp id fun h4 c e => h4 c ((kg k h1).symm.trans e)), kg k h1]
 ·rintro v g2 hq
  by_cases hm : matchP x.ts l = true
  ·rw [if_pos hm] at hq
   obtain ⟨j1, j2, j3, j4, ⟨c, cv', j5, j6, j7, j8, j9⟩, j10⟩ := hq
   refine ⟨_, j3, by simp, hW _ (by omega), ?_⟩
   have kz : ∀ (o : O) k, k ≠ g.n + 1 → (g2.set (g.n + 1) o).get k = g2.get k := fun o k hk => w_set_ne (by omega) hk _
   have kc : ∀ (o : O) k c e, g2.get k = some (.cells c e) → (g2.set (g.n + 1) o).get k = some (.cells c e) := fun o k c e h1 => by
    rw [kz o k (fun h2 => by rw [h2, j3] at h1; cases h1)]; exact h1
   refine hk _ ((kz _ _ (by omega)).trans j2) (by rw [Heap.n_set]; omega) ?_
   rw [if_pos hm]
   refine ⟨(j4.same (kz _ b (by omega)) fun k h1 h2 => kz _ k ?_).mono fun k h1 => h1.imp id fun ⟨h2, c, h3⟩ => ⟨by omega, c, kc _ _ _ _ h3⟩, ⟨c, cv', kc _ _ _ _ j5, j6, j7, j8, j9.keep fun k c h1 _ => kc _ _ _ _ h1⟩, fun k h1 h2 h3 h4 => by rw [kz _ k (by omega)]; exact j10 k h1 h2 h3 h4⟩
   rcases h1 with h1 | ⟨h1, _⟩
   ·have := hIlt k h1; omega
   ·omega
  ·rw [if_neg hm] at hq
   obtain ⟨j1, j2⟩ := hq
   refine ⟨_, (j2 (g.n + 1) (by omega)).trans lA, by simp, hW _ (by omega), ?_⟩
   have kz : ∀ (o : O) k, k ≠ g.n + 1 → (g2.set (g.n + 1) o).get k = g2.get k := fun o k hk => w_set_ne (by omega) hk _
   refine hk _ ((kz _ _ (by omega)).trans ((j2 g.n (by omega)).trans mA)) (by rw [Heap.n_set]; omega) ?_
   rw [if_neg hm]
   intro k h1
   rw [kz _ k (by omega), j2 k (by omega), kA k h1]
end Go.Proofs.Ytmimialblhlklaa
