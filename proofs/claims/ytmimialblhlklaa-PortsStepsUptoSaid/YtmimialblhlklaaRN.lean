/- A step on both machines: kind 1. -/
import Derived.Test.YtmimialblhlklaaN7
set_option linter.unusedVariables false
set_option maxRecDepth 100000
namespace Go.Proofs.Ytmimialblhlklaa
open Go Go.Vm
variable {hb g0 : Heap} {R W M0 MD0 : Set'} {pp rd sb : Nat} {qs : List Nat} {S : AT} {kd a n : Int} {vf vp : V} {L : List Te} {l : List V} {tr : Tr V} {Q : Ex → Fr → Heap → Prop} {t : List It}
theorem ownS_at {sz n0 m : Nat} {h : Heap} {v : V} {l : List V} {e : TypeId} (ho : OwnS sz n0 h v m l e) (hm : 0 < m) : ∃ b x c, v = .slice (some (b, 0)) m m x ∧ n0 ≤ b ∧ h.get b = some (.cells c e) ∧ c.size = m * sz ∧ c.ro = false ∧ c.gets 0 (m * sz) = l := by
 obtain ⟨hl, ⟨rfl, _⟩ | ⟨b, x, c, h0, rfl, h1, hb, hs, hr, hg⟩⟩ := ho
 ·omega
 ·exact ⟨b, x, c, rfl, h1, hb, hs, hr, hg⟩
theorem slice_ownS {sz n0 m z : Nat} {h : Heap} {v : V} {l l' : List V} {t e : TypeId} (hu : Try.prog.underlying t = some (.slice e)) (hz : szV Try.prog e = some sz) (ho : OwnS sz n0 h v (m + z) (l ++ l') e) (hl : l.length = m * sz) (hne : 0 < z) : ∃ v', sliceV Try.prog t v none (some (m : Int)) none = some v' ∧ LRs sz h (fun k => k = sblk v ∧ n0 ≤ k) v' m l := by
 obtain ⟨b, x, c, rfl, h1, hb, hs, hr, hg⟩ := ownS_at ho (by omega)
 have hbv : boundsV (m + z) (m + z) none (some (m : Int)) none = some (0, m, m + z) := by
  have : (m : Int).toNat = m := by omega
  simp only [boundsV, this]
  rw [if_pos (by omega)]
 have hb0 : Nat.blt 0 (m + z) = true := w_blt_t (by omega)
 have hq0 : Nat.beq (m + z) 0 = false := w_beq_f (by omega)
 have hms : m * sz ≤ (m + z) * sz := Nat.mul_le_mul_right _ (by omega)
 refine ⟨.slice (some (b, 0)) m (m + z) x, ?_, hl, .inr ⟨b, 0, _, x, c, e, rfl, ⟨rfl, h1⟩, hb, by omega, ?_⟩⟩
 ·simp only [sliceV, hu, hz, hbv]
  cases x with
  | true => simp only [hq0]; simp
  | false => simp
 ·rw [gets_take c ((m + z) * sz) (m * sz) hms, hg, ← hl]; simp
theorem fill_l0 {g : Heap} {v : V} {b m : Nat} {x : Bool} (hv : v = .slice (some (b, 0)) m m x) (hm0 : m ≤ 1000000000) (hc : ∃ c, g.get b = some (.cells c 79) ∧ c.size = m * 3 ∧ c.ro = false) (hR : ∀ b, R b) (hW : W b) (t9 : tr.get 9 = some v) (t15 : tr.get 15 = some (.int .i64 0))
  (hk : ∀ tr' g', tr'.get 0 = tr.get 0 → tr'.get 1 = tr.get 1 → tr'.get 10 = tr.get 10 → tr'.get 11 = tr.get 11 → tr'.get 12 = tr.get 12 → tr'.get 13 = tr.get 13 → tr'.get 14 = tr.get 14 → g'.n = g.n → (∀ k, k ≠ b → g'.get k = g.get k) → resume ⟨Try.prog, true⟩ R W none Q t (.exit 1) ⟨⟨275, tr'⟩, []⟩ g') :
  GLoop ⟨Try.prog, true⟩ R W none Q ir19_l0 t ⟨⟨275, tr⟩, []⟩ g := by
 subst hv
 refine GLoop.inv hm (fun k f g' => f.mks = [] ∧ f.tm.n = 275 ∧ f.tm.get 9 = some (.slice (some (b, 0)) m m x) ∧ f.tm.get 0 = tr.get 0 ∧ f.tm.get 1 = tr.get 1 ∧ f.tm.get 10 = tr.get 10 ∧ f.tm.get 11 = tr.get 11 ∧ f.tm.get 12 = tr.get 12 ∧ f.tm.get 13 = tr.get 13 ∧ f.tm.get 14 = tr.get 14 ∧ g'.n = g.n ∧ (∀ k, k ≠ b → g'.get k = g.get k) ∧ (∃ c, g'.get b = some (.cells c 79) ∧ c.size = m * 3 ∧ c.ro = false) ∧ ∃ i : Nat, i + k = m ∧ f.tm.get 15 = some (.int .i64 ((i : Nat) : Int))) m ?_ ?_
 ·exact ⟨rfl, rfl, t9, rfl, rfl, rfl, rfl, rfl, rfl, rfl, rfl, fun _ _ => rfl, hc, 0, by omega, t15⟩
 rintro k ⟨⟨n', tr'⟩, mks⟩ g' ⟨hmk, hn', u9, u0, u1, u10, u11, u12, u13, u14, gn, go, ⟨c, hb, hs, hro⟩, i, hik, u15⟩
 simp only [Tm.get_mk] at hmk hn' u9 u0 u1 u10 u11 u12 u13 u14 u15
 subst hmk hn'
 have hl : ∀ g, lenV Try.prog 22 (.slice (some (b, 0)) m m x) g = some (m, []) := fun g => by simp only [lenV, Try.underlying22]
 by_cases hi : i < m
 ·have hz : (i : Int) < (m : Int) := by omega
  have hi0 : (0 : Int) ≤ (i : Int) := by omega
  have hbl := Heap.lt_of_get hb
  have hRb := hR b
  have hsz : i * 3 + 3 ≤ c.size := by omega
  simp -implicitDefEqProofs (disch := (first | omega | (simp -implicitDefEqProofs only [szs, ne_eq] <;> omega) | fail)) only [go_sem, seval, ↓reduceIte, reduceCtorEq, ir19_l0, undefV, u9, u15, ↓hl, hz, hi0, hb, hW, hro]
  exact ⟨k - 1, by omega, u0, u1, u10, u11, u12, u13, u14, gn, fun k hk => by rw [w_set_ne hbl hk]; exact go k hk, ⟨_, rfl, by simp only [Blk.size_set]; exact hs, by simp only [Blk.ro_set]; exact hro⟩, i + 1, by omega, by simp⟩
 ·have hz : ¬ (i : Int) < (m : Int) := by omega
  simp -implicitDefEqProofs (disch := (first | omega | (simp -implicitDefEqProofs only [szs, ne_eq] <;> omega) | fail)) only [go_sem, seval, ↓reduceIte, ir19_l0, u9, u15, ↓hl, hz]
  exact hk _ _ (by simp -implicitDefEqProofs (disch := (first | omega | (simp -implicitDefEqProofs only [szs, ne_eq] <;> omega) | fail)) only [go_sem, seval, ↓reduceIte, reduceCtorEq, u0]) (by simp -implicitDefEqProofs (disch := (first | omega | (simp -implicitDefEqProofs only [szs, ne_eq] <;> omega) | fail)) only [go_sem, seval, ↓reduceIte, u1]) (by simp -implicitDefEqProofs (disch := (first | omega | (simp -implicitDefEqProofs only [szs, ne_eq] <;> omega) | fail)) only [go_sem, seval, ↓reduceIte, u10]) (by simp -implicitDefEqProofs (disch := (first | omega | (simp -implicitDefEqProofs only [szs, ne_eq] <;> omega) | fail)) only [go_sem, seval, ↓reduceIte, u11]) (by simp -implicitDefEqProofs (disch := (first | omega | (simp -implicitDefEqProofs only [szs, ne_eq] <;> omega) | fail)) only [go_sem, seval, ↓reduceIte, u12]) (by simp -implicitDefEqProofs (disch := (first | omega | (simp -implicitDefEqProofs only [szs, ne_eq] <;> omega) | fail)) only [go_sem, seval, ↓reduceIte, u13]) (by simp -implicitDefEqProofs (disch := (first | omega | (simp -implicitDefEqProofs only [szs, ne_eq] <;> omega) | fail)) only [go_sem, seval, ↓reduceIte, u14]) gn go
set_option maxHeartbeats 4000000 in
theorem do_k1 (q : BothQ hb g0 g0 M0 MD0 pp M0 rd MD0 qs S S) (hst : StepIs hb vf vp L l) (hLl : L.length ≤ 1048576) (hc : StB g0 sb kd a n vf vp) (hs : ¬ (M0 sb ∨ MD0 sb)) (hR : ∀ b, R b) (hW : ∀ k, hb.n ≤ k → W k)
  (t0 : tr.get 0 = some (.ptr (some (pp, 0)))) (t1 : tr.get 1 = some (.ptr (some (rd, 0)))) (t5 : tr.get 5 = some (.ptr (some (sb, 0))))
  (hk : ∀ tr' g' pp' M MD, tr'.get 6 = some (.ptr (some (pp', 0))) → tr'.get 7 = some (.ptr (some (rd, 0))) → tr'.get 8 = some (.bool true) → BothQ hb g0 g' M0 MD0 pp' M rd MD qs (claimA qs S a L) (claimA qs S a L) → Q .ret ⟨⟨275, tr'⟩, []⟩ g') :
  GO ⟨Try.prog, true⟩ R W none Q (It.code ir19_k1 :: t) ⟨⟨275, tr⟩, []⟩ g0 := by
 have hRs := hR sb
 have hbn := q.hb0
 obtain ⟨c, c1, c2, d0, d1, d2, d3, d4⟩ := hc.c
 have hsg := Heap.lt_of_get c1
 obtain ⟨hvf, hvp, hby⟩ := q.at' hst
 have hfo := LRs.one hvf
 have hfl := LRs.lenV Try.underlying22 hvf
 simp -implicitDefEqProofs (disch := (first | omega | fail)) only [go_sem, seval, ↓reduceIte, ir19_k1, t5, c1, c2, d3, hRs]
 refine GCall.of (((rtests_ok (R := fun _ => True) (W := fun _ => False) hvf (fun _ _ => trivial) (by omega)).any).foot (fun b _ => hR b) (fun _ h => h.elim)) ?_
 rintro v1 h1 ⟨o1, n1, k1⟩
 have kp : ∀ k, k < h1.n → (h1.push (.cells (Blk.of [.int .i64 77, .int .i64 0, .int .i64 0]) 79)).get k = h1.get k := fun k hk => w_push_ne (by omega) _
 obtain ⟨v2, h2, r2, w2, ap2, o2, n2, k2, w2n, k2', ty2, hr2⟩ := app_ownS (bytes := 24) (m := 1) (news := [.int .i64 77, .int .i64 0, .int .i64 0]) (rs := [h1.n]) (o1.old kp) (by simp; omega) (x := .slice (some (h1.n, 0)) 1 1 true) rfl (firstS (w_push_eq rfl _) (Nat.le_refl _) rfl) rfl rfl (by omega) (by omega) (by omega)
 simp only [Heap.n_push] at n2
 have ko : ∀ k, k < g0.n → h2.get k = g0.get k := fun k hk => by rw [k2 k hk, kp k (by omega), k1 k hk]
 have hrR : allB R r2 := allB_of fun b _ => hR b
 have hwW : allB W w2 := allB_of fun b hb => hW b (by have := w2n b hb; omega)
 have q1 := q.push (by omega) ko
 obtain ⟨c, c1', c2', d0', d1', d2', d3', d4'⟩ := (hc.at' hs q1).c
 obtain ⟨v3, hsl, hv3⟩ := slice_ownS (t := 22) Try.underlying22 sz_79 o2 (flatT_len L) (by omega)
 obtain ⟨hvf1, _, _⟩ := q1.at' hst
 simp -implicitDefEqProofs (disch := (first | omega | fail)) only [go_sem, seval, ↓reduceIte, reduceCtorEq, t0, t5, appendV_of ap_22, ap2, hrR, hwW, c1', c2', d1', d3', ↓hfl, hsl]
 obtain ⟨b2, x2, cb, rfl, hb2, hbg, hbs, hbr, hbgets⟩ := ownS_at o2 (by omega)
 have hb2l := Heap.lt_of_get hbg
 have hMl := q.t.p.lt
 have hMDl := q.t.d.lt
 refine GCallD.dem (R' := fun _ => True) (W' := M0) (claim_px (R := fun _ => True) (W := M0) q1.t.p hv3 (fun _ => trivial) (fun _ h => h) a) rfl trivial ?_ ?_
 ·simp -implicitDefEqProofs (disch := (first | omega | fail)) only [go_sem, seval]
  simp only [implies_true, true_and, hR]
  exact fun b _ h => hW b (q.t.mp b h)
 rintro r h3 ⟨hq3, rfl⟩
 have hch := hq3.1
 have hn3 := hch.n
 obtain ⟨M2, q2, hm2⟩ := q1.prog hq3
 obtain ⟨c, e1, e2, d0, d1, d2, d3, d4⟩ := (hc.at' hs q2).c
 obtain ⟨hvf2, _, _⟩ := q2.at' hst
 simp -implicitDefEqProofs (disch := (first | omega | fail)) only [go_sem, seval, ↓reduceIte, t1, t5, e1, e2, d1, d3, hRs]
 refine ⟨⟨fun b _ _ => hR b, fun b _ h => hW b (q.t.mp b h)⟩, GCall.of (claim_rx q2.t.d hvf2 hR (fun b h => hW b (q2.t.md b h)) a).any ?_⟩
 rintro r h4 ⟨hq4, rfl⟩
 have hn4 := hq4.1
 have hk4 := hq4.2.1
 obtain ⟨MD, q3, hmd⟩ := q2.doc hq4
 obtain ⟨c, e1, e2, d0, d1, d2, d3, d4⟩ := (hc.at' hs q3).c
 obtain ⟨hvf3, _, _⟩ := q3.at' hst
 have kb : ∀ b, g0.n ≤ b → b < h2.n → h4.get b = h2.get b := fun b h5 h6 => by
  rw [hk4 b (by omega) (fun h => by have := hMDl b h; omega), hch.k b h6 (fun h => by have := hMl b h.1; omega)]
 have hbg4 := (kb b2 hb2 hb2l).trans hbg
 have hv34 : LRs 3 h4 (fun k => k = sblk (.slice (some (b2, 0)) (L.length + 1) (L.length + 1) x2) ∧ g0.n ≤ k) v3 L.length (flatT L) := LRs.same hv3 fun k h5 h6 => kb k h5.2 h6
 have hRb2 := hR b2
 have hzz : (L.length : Int) < ((L.length + 1 : Nat) : Int) := by omega
 have hz0 : (0 : Int) ≤ (L.length : Int) := by omega
 have hsz : L.length * 3 + 3 ≤ cb.size := by omega
 have hsz1 : L.length * 3 < cb.size := by omega
 have h77 : cb.get (L.length * 3) = .int .i64 77 := by
  have := Blk.gets_get cb ((L.length + 1) * 3) 0 (L.length * 3) (by omega)
  rw [hbgets, Nat.zero_add, List.getElem?_append_right (by rw [flatT_len]; omega), flatT_len, Nat.sub_self] at this
  exact (Option.some.inj this).symm
 simp -implicitDefEqProofs (disch := (first | omega | fail)) only [go_sem, seval, ↓reduceIte, t5, e1, e2, d3, ↓hfl, hsl]
 refine GCallD.of (R' := fun _ => True) (W' := fun _ => False) (sametests_ok (R := fun _ => True) (W := fun _ => False) hv34 hvf3 (fun _ => trivial) (by omega)) ?_
 rintro r h5 ⟨rfl, rfl⟩
 rw [decide_eq_true rfl]
 simp -implicitDefEqProofs (disch := (first | omega | fail)) only [go_sem, seval, ↓reduceIte, t5, e1, e2, d3, hRs, ↓hfl, hbg4, hRb2, hzz, hz0, h77]
 refine ⟨⟨fun b _ _ => hR b, fun b _ h => h.elim⟩, fill_l0 (b := b2) (m := L.length + 1) (x := x2) rfl (by omega) ⟨cb, hbg4, hbs, hbr⟩ hR (hW b2 (by omega)) (by simp -implicitDefEqProofs (disch := (first | omega | fail)) only [go_sem, seval, ↓reduceIte]) (by simp -implicitDefEqProofs (disch := (first | omega | fail)) only [go_sem, seval, ↓reduceIte]) ?_⟩
 intro tr' g6 u0 u1 u10 u11 u12 u13 u14 hn6 hk6
 replace u0 := u0.trans (show _ = some (V.ptr (some (pp, 0))) by simp -implicitDefEqProofs (disch := (first | omega | fail)) only [go_sem, seval, ↓reduceIte, reduceCtorEq, t0])
 replace u1 := u1.trans (show _ = some (V.ptr (some (rd, 0))) by simp -implicitDefEqProofs (disch := (first | omega | fail)) only [go_sem, seval, ↓reduceIte, t1])
 replace u10 := u10.trans (show _ = some (V.int .i64 (claimV qs S a L).1) by simp -implicitDefEqProofs (disch := (first | omega | fail)) only [go_sem, seval, ↓reduceIte])
 replace u11 := u11.trans (show _ = some (V.int .i64 (claimV qs S a L).2) by simp -implicitDefEqProofs (disch := (first | omega | fail)) only [go_sem, seval, ↓reduceIte])
 replace u12 := u12.trans (show _ = some (V.int .i64 (claimV qs S a L).1) by simp -implicitDefEqProofs (disch := (first | omega | fail)) only [go_sem, seval, ↓reduceIte])
 replace u13 := u13.trans (show _ = some (V.int .i64 (claimV qs S a L).2) by simp -implicitDefEqProofs (disch := (first | omega | fail)) only [go_sem, seval, ↓reduceIte])
 replace u14 := u14.trans (show _ = some (V.bool true) by simp -implicitDefEqProofs (disch := (first | omega | fail)) only [go_sem, seval, ↓reduceIte])
 have q6 := q3.same (g' := g6) (by omega) fun k h1 h2 => hk6 k (by
  rcases h2 with h2 | h2 | h2
  ·omega
  ·rcases hm2 k h2 with h3 | h3
   ·have := hMl k h3; omega
   ·omega
  ·rcases hmd k h2 with h3 | h3
   ·have := hMDl k h3; omega
   ·omega)
 have f1 : ((claimV qs S a L).1 == (claimV qs S a L).1) = true := by simp
 have f2 : ((claimV qs S a L).2 == (claimV qs S a L).2) = true := by simp
 simp -implicitDefEqProofs (disch := (first | omega | fail)) only [go_sem, seval, ↓reduceIte, u0, u1, u10, u11, u12, u14, f1]
 refine GCall.of (num_ok _).any ?_
 rintro r g7 ⟨rfl, rfl⟩
 simp -implicitDefEqProofs (disch := (first | omega | fail)) only [go_sem, seval, ↓reduceIte, u13, f2]
 exact hk _ _ _ _ _ (by simp -implicitDefEqProofs (disch := (first | omega | fail)) only [go_sem, seval, ↓reduceIte]) (by simp -implicitDefEqProofs (disch := (first | omega | fail)) only [go_sem, seval, ↓reduceIte]) (by simp -implicitDefEqProofs (disch := (first | omega | fail)) only [go_sem, seval, ↓reduceIte]) q6
def StepQ (hb g g' : Heap) (M MD : Set') (rd : Nat) (qs : List Nat) (pp' : Nat) (S : AT) : Prop := ∃ M' MD', Both hb g' pp' M' rd MD' qs S S ∧ (∀ k, M' k → M k ∨ g.n ≤ k) ∧ (∀ k, MD' k → MD k ∨ g.n ≤ k) ∧ g.n ≤ g'.n ∧ ∀ k, k < g.n → ¬ (M k ∨ MD k) → g'.get k = g.get k
set_option maxHeartbeats 4000000 in
theorem do_ok {g : Heap} {M MD : Set'} (b : Both hb g pp M rd MD qs S S) (hst : StepIs hb vf vp L l) (hLl : L.length ≤ 1048576) (hll : l.length ≤ 1048576) (hR : ∀ b, R b) (hW : ∀ k, hb.n ≤ k → W k) : SF ⟨Try.prog, true⟩ 19 [.ptr (some (pp, 0)), .ptr (some (rd, 0)), .agg [.int .i64 kd, .int .i64 a, .int .i64 n, vf, vp]] g R W fun r g' => ∃ pp', r = .tuple [.ptr (some (pp', 0)), .ptr (some (rd, 0)), .bool true] ∧ StepQ hb g g' M MD rd qs pp' (stepS qs S kd a n L l) := by
 have hfo := LRs.one hst.1
 have hpo := hst.2.1.one
 refine SF.go hm Try.func19 ir19_eq ?_
 rw [ir19_c_eq]
 have hRn := hR g.n
 obtain ⟨g1, e1, n1, b1, k1⟩ : ∃ g1, g.push (.cells (Blk.of [.int .i64 kd, .int .i64 a, .int .i64 n, vf, vp]) 49) = g1 ∧ g1.n = g.n + 1 ∧ g1.get g.n = some (.cells (Blk.of [.int .i64 kd, .int .i64 a, .int .i64 n, vf, vp]) 49) ∧ ∀ k, k < g.n → g1.get k = g.get k := ⟨_, rfl, by simp, w_push_eq rfl _, fun k hk => w_push_ne (by omega) _⟩
 have q : BothQ hb g1 g1 M MD pp M rd MD qs S S := (b.q.push (by omega) k1).t.q
 have hc : StB g1 g.n kd a n vf vp := ⟨_, b1, rfl, rfl, rfl, rfl, rfl, rfl⟩
 have hs : ¬ (M g.n ∨ MD g.n) := fun h => h.elim (fun h => by have := b.p.lt _ h; omega) fun h => by have := b.d.lt _ h; omega
 have fin : ∀ {g' : Heap} {pp' : Nat} {M' MD' : Set'} {S' : AT}, BothQ hb g1 g' M MD pp' M' rd MD' qs S' S' → StepQ hb g g' M MD rd qs pp' S' := fun {g' pp' M' MD' S'} q' =>
  ⟨M', MD', q'.t, fun k h => (q'.m k h).imp id fun h => by omega, fun k h => (q'.md k h).imp id fun h => by omega, by have := q'.n; omega, fun k h1 h2 => by rw [q'.k k (by omega) h2]; exact k1 k h1⟩
 by_cases h1 : kd = 1
 ·subst h1
  have hS : stepS qs S 1 a n L l = claimA qs S a L := rfl
  rw [hS]
  simp -implicitDefEqProofs (disch := (first | omega | (simp -implicitDefEqProofs only [szs, ne_eq] <;> omega) | fail)) only [go_sem, seval, ↓reduceIte, reduceCtorEq, ir19_c, undefV, e1, b1, hRn]
  refine do_k1 q hst hLl hc hs (fun b => .inr (hR b)) (fun k h => .inr (hW k h)) (by simp -implicitDefEqProofs (disch := (first | omega | (simp -implicitDefEqProofs only [szs, ne_eq] <;> omega) | fail)) only [go_sem, seval, ↓reduceIte]) (by simp -implicitDefEqProofs (disch := (first | omega | (simp -implicitDefEqProofs only [szs, ne_eq] <;> omega) | fail)) only [go_sem, seval, ↓reduceIte, reduceCtorEq]) (by simp -implicitDefEqProofs (disch := (first | omega | (simp -implicitDefEqProofs only [szs, ne_eq] <;> omega) | fail)) only [go_sem, seval, ↓reduceIte, reduceCtorEq]) ?_
  intro tr' g' pp' M' MD' u6 u7 u8 q'
  simp -implicitDefEqProofs (disch := (first | omega | (simp -implicitDefEqProofs only [szs, ne_eq] <;> omega) | fail)) only [go_sem, seval, u6, u7, u8]
  exact ⟨pp', rfl, fin q'⟩
 by_cases h2 : kd = 2
 ·subst h2
  have hS : stepS qs S 2 a n L l = closeA S a n := rfl
  rw [hS]
  simp -implicitDefEqProofs (disch := (first | omega | (simp -implicitDefEqProofs only [szs, ne_eq] <;> omega) | fail)) only [go_sem, seval, ↓reduceIte, reduceCtorEq, ir19_c, undefV, e1, b1, hRn]
  refine do_k2 q hc hs (fun b => .inr (hR b)) (fun k h => .inr (hW k h)) (by simp -implicitDefEqProofs (disch := (first | omega | (simp -implicitDefEqProofs only [szs, ne_eq] <;> omega) | fail)) only [go_sem, seval, ↓reduceIte]) (by simp -implicitDefEqProofs (disch := (first | omega | (simp -implicitDefEqProofs only [szs, ne_eq] <;> omega) | fail)) only [go_sem, seval, ↓reduceIte, reduceCtorEq]) (by simp -implicitDefEqProofs (disch := (first | omega | (simp -implicitDefEqProofs only [szs, ne_eq] <;> omega) | fail)) only [go_sem, seval, ↓reduceIte, reduceCtorEq]) ?_
  intro tr' g' pp' M' MD' u6 u7 u8 q'
  simp -implicitDefEqProofs (disch := (first | omega | (simp -implicitDefEqProofs only [szs, ne_eq] <;> omega) | fail)) only [go_sem, seval, u6, u7, u8]
  exact ⟨pp', rfl, fin q'⟩
 by_cases h3 : kd = 3
 ·subst h3
  have hS : stepS qs S 3 a n L l = comeA S l := rfl
  rw [hS]
  simp -implicitDefEqProofs (disch := (first | omega | (simp -implicitDefEqProofs only [szs, ne_eq] <;> omega) | fail)) only [go_sem, seval, ↓reduceIte, reduceCtorEq, ir19_c, undefV, e1, b1, hRn]
  refine do_k3 q hst hll hc hs (fun b => .inr (hR b)) (fun k h => .inr (hW k h)) (by simp -implicitDefEqProofs (disch := (first | omega | (simp -implicitDefEqProofs only [szs, ne_eq] <;> omega) | fail)) only [go_sem, seval, ↓reduceIte]) (by simp -implicitDefEqProofs (disch := (first | omega | (simp -implicitDefEqProofs only [szs, ne_eq] <;> omega) | fail)) only [go_sem, seval, ↓reduceIte, reduceCtorEq]) (by simp -implicitDefEqProofs (disch := (first | omega | (simp -implicitDefEqProofs only [szs, ne_eq] <;> omega) | fail)) only [go_sem, seval, ↓reduceIte, reduceCtorEq]) ?_
  intro tr' g' pp' M' MD' u6 u7 u8 q'
  simp -implicitDefEqProofs (disch := (first | omega | (simp -implicitDefEqProofs only [szs, ne_eq] <;> omega) | fail)) only [go_sem, seval, u6, u7, u8]
  exact ⟨pp', rfl, fin q'⟩
 by_cases h4 : kd = 4
 ·subst h4
  have hS : stepS qs S 4 a n L l = takeA S a n := rfl
  rw [hS]
  simp -implicitDefEqProofs (disch := (first | omega | (simp -implicitDefEqProofs only [szs, ne_eq] <;> omega) | fail)) only [go_sem, seval, ↓reduceIte, reduceCtorEq, ir19_c, undefV, e1, b1, hRn]
  refine do_k4 (.inl rfl) q hc hs (fun b => .inr (hR b)) (fun k h => .inr (hW k h)) (by simp -implicitDefEqProofs (disch := (first | omega | (simp -implicitDefEqProofs only [szs, ne_eq] <;> omega) | fail)) only [go_sem, seval, ↓reduceIte]) (by simp -implicitDefEqProofs (disch := (first | omega | (simp -implicitDefEqProofs only [szs, ne_eq] <;> omega) | fail)) only [go_sem, seval, ↓reduceIte, reduceCtorEq]) (by simp -implicitDefEqProofs (disch := (first | omega | (simp -implicitDefEqProofs only [szs, ne_eq] <;> omega) | fail)) only [go_sem, seval, ↓reduceIte, reduceCtorEq]) ?_
  intro tr' g' pp' M' MD' u6 u7 u8 q'
  simp -implicitDefEqProofs (disch := (first | omega | (simp -implicitDefEqProofs only [szs, ne_eq] <;> omega) | fail)) only [go_sem, seval, u6, u7, u8]
  exact ⟨pp', rfl, fin q'⟩
 by_cases h5 : kd = 5
 ·subst h5
  have hS : stepS qs S 5 a n L l = S := rfl
  rw [hS]
  simp -implicitDefEqProofs (disch := (first | omega | (simp -implicitDefEqProofs only [szs, ne_eq] <;> omega) | fail)) only [go_sem, seval, ↓reduceIte, reduceCtorEq, ir19_c, undefV, e1, b1, hRn]
  refine do_k4 (.inr rfl) q hc hs (fun b => .inr (hR b)) (fun k h => .inr (hW k h)) (by simp -implicitDefEqProofs (disch := (first | omega | (simp -implicitDefEqProofs only [szs, ne_eq] <;> omega) | fail)) only [go_sem, seval, ↓reduceIte]) (by simp -implicitDefEqProofs (disch := (first | omega | (simp -implicitDefEqProofs only [szs, ne_eq] <;> omega) | fail)) only [go_sem, seval, ↓reduceIte, reduceCtorEq]) (by simp -implicitDefEqProofs (disch := (first | omega | (simp -implicitDefEqProofs only [szs, ne_eq] <;> omega) | fail)) only [go_sem, seval, ↓reduceIte, reduceCtorEq]) ?_
  intro tr' g' pp' M' MD' u6 u7 u8 q'
  simp -implicitDefEqProofs (disch := (first | omega | (simp -implicitDefEqProofs only [szs, ne_eq] <;> omega) | fail)) only [go_sem, seval, u6, u7, u8]
  exact ⟨pp', rfl, fin q'⟩
 by_cases h6 : kd = 6
 ·subst h6
  have hS : stepS qs S 6 a n L l = S := rfl
  rw [hS]
  simp -implicitDefEqProofs (disch := (first | omega | (simp -implicitDefEqProofs only [szs, ne_eq] <;> omega) | fail)) only [go_sem, seval, ↓reduceIte, reduceCtorEq, ir19_c, undefV, e1, b1, hRn]
  refine do_k6 q (fun b => .inr (hR b)) (fun k h => .inr (hW k h)) (by simp -implicitDefEqProofs (disch := (first | omega | (simp -implicitDefEqProofs only [szs, ne_eq] <;> omega) | fail)) only [go_sem, seval, ↓reduceIte]) (by simp -implicitDefEqProofs (disch := (first | omega | (simp -implicitDefEqProofs only [szs, ne_eq] <;> omega) | fail)) only [go_sem, seval, ↓reduceIte, reduceCtorEq]) ?_
  intro tr' g' pp' M' MD' u6 u7 u8 q'
  simp -implicitDefEqProofs (disch := (first | omega | (simp -implicitDefEqProofs only [szs, ne_eq] <;> omega) | fail)) only [go_sem, seval, u6, u7, u8]
  exact ⟨pp', rfl, fin q'⟩
 have hS : stepS qs S kd a n L l = S := by unfold stepS; rw [if_neg h1, if_neg h2, if_neg h3, if_neg h4]
 have f1 : (kd == 1) = false := by simpa using h1
 have f2 : (kd == 2) = false := by simpa using h2
 have f3 : (kd == 3) = false := by simpa using h3
 have f4 : (kd == 4) = false := by simpa using h4
 have f5 : (kd == 5) = false := by simpa using h5
 have f6 : (kd == 6) = false := by simpa using h6
 rw [hS]
 simp -implicitDefEqProofs (disch := (first | omega | (simp -implicitDefEqProofs only [szs, ne_eq] <;> omega) | fail)) only [go_sem, seval, ↓reduceIte, reduceCtorEq, ir19_c, undefV, e1, b1, hRn, f1, f2, f3, f4, f5, f6]
 exact ⟨pp, rfl, fin q⟩
end Go.Proofs.Ytmimialblhlklaa
