/- A step on both machines: kind 3. -/
import Derived.Test.YtmimialblhlklaaRK
set_option linter.unusedVariables false
set_option maxRecDepth 100000
namespace Go.Proofs.Ytmimialblhlklaa
open Go Go.Vm
variable {hb g0 : Heap} {R W M0 MD0 : Set'} {pp rd sb : Nat} {qs : List Nat} {S : AT} {kd a n : Int} {vf vp : V} {L : List Te} {l : List V} {tr : Tr V} {Q : Ex → Fr → Heap → Prop} {t : List It}
theorem fill_l1 {g : Heap} {v : V} {l : List V} {n0 : Nat} (ho : Own n0 g v l 5) (hl : l.length ≤ 1000000000) (hR : ∀ b, R b) (hW : ∀ b, n0 ≤ b → W b) (t20 : tr.get 20 = some v) (t26 : tr.get 26 = some (.int .i64 0))
  (hk : ∀ tr' g', tr'.get 0 = tr.get 0 → tr'.get 1 = tr.get 1 → tr'.get 21 = tr.get 21 → tr'.get 22 = tr.get 22 → tr'.get 23 = tr.get 23 → tr'.get 24 = tr.get 24 → tr'.get 25 = tr.get 25 → g'.n = g.n → (∀ b, (b < n0 ∨ b ≠ sblk v) → g'.get b = g.get b) → resume ⟨Try.prog, true⟩ R W none Q t (.exit 3) ⟨⟨275, tr'⟩, []⟩ g') :
  GLoop ⟨Try.prog, true⟩ R W none Q ir19_l1 t ⟨⟨275, tr⟩, []⟩ g := by
 have hlen := ho.lr.lenV Try.underlying36
 refine GLoop.inv hm (fun k f g' => f.mks = [] ∧ f.tm.n = 275 ∧ f.tm.get 20 = some v ∧ f.tm.get 0 = tr.get 0 ∧ f.tm.get 1 = tr.get 1 ∧ f.tm.get 21 = tr.get 21 ∧ f.tm.get 22 = tr.get 22 ∧ f.tm.get 23 = tr.get 23 ∧ f.tm.get 24 = tr.get 24 ∧ f.tm.get 25 = tr.get 25 ∧ g'.n = g.n ∧ (∀ b, (b < n0 ∨ b ≠ sblk v) → g'.get b = g.get b) ∧ ∃ i l', i + k = l.length ∧ f.tm.get 26 = some (.int .i64 ((i : Nat) : Int)) ∧ Own n0 g' v l' 5 ∧ l'.length = l.length) l.length ?_ ?_
 ·exact ⟨rfl, rfl, t20, rfl, rfl, rfl, rfl, rfl, rfl, rfl, rfl, fun _ _ => rfl, 0, l, by omega, t26, ho, rfl⟩
 rintro k ⟨⟨n', tr'⟩, mks⟩ g' ⟨hmk, hn', u20, u0, u1, u21, u22, u23, u24, u25, gn, go, i, l', hik, u26, ho', hl'⟩
 simp only [Tm.get_mk] at hmk hn' u20 u0 u1 u21 u22 u23 u24 u25 u26
 subst hmk hn'
 by_cases hi : i < l.length
 ·have hz : (i : Int) < (l.length : Int) := by omega
  have hi0 : (0 : Int) ≤ (i : Int) := by omega
  obtain ⟨b, x, c, rfl, hb0, hb, hs, hro, hg, hgs⟩ := ho'.get (i := i) (by omega)
  have hbl := Heap.lt_of_get hb
  have hRb := hR b; have hWb := hW b hb0
  rw [hl'] at u20 hlen hs
  have hsz : i < c.size := by omega
  simp -implicitDefEqProofs (disch := (first | omega | fail)) only [go_sem, seval, ↓reduceIte, reduceCtorEq, ir19_l1, undefV, u20, u26, ↓hlen, hz, hi0, hb, hWb, hro]
  refine ⟨k - 1, by omega, by rw [hl'], u0, u1, u21, u22, u23, u24, u25, gn, fun b' hb' => by rw [w_set_ne hbl (by rcases hb' with h | h; omega; exact h)]; exact go b' hb', i + 1, l'.set i (.int .u8 102), by omega, by simp, ?_, by rw [List.length_set]; exact hl'⟩
  refine .inr ⟨b, x, c.set i (.int .u8 102), by intro h; have := congrArg List.length h; rw [List.length_set] at this; simp only [List.length_nil] at this; omega, by simp, hb0, w_set_eq hbl rfl _, by rw [Blk.size_set, List.length_set]; omega, by rw [Blk.ro_set]; exact hro, ?_⟩
  rw [List.length_set]
  rw [set_gets, hgs]
 ·have hz : ¬ (i : Int) < (l.length : Int) := by omega
  simp -implicitDefEqProofs (disch := (first | omega | fail)) only [go_sem, seval, ↓reduceIte, ir19_l1, u20, u26, ↓hlen, hz]
  exact hk _ _ (by simp -implicitDefEqProofs (disch := (first | omega | fail)) only [go_sem, seval, ↓reduceIte, reduceCtorEq, u0]) (by simp -implicitDefEqProofs (disch := (first | omega | fail)) only [go_sem, seval, ↓reduceIte, u1]) (by simp -implicitDefEqProofs (disch := (first | omega | fail)) only [go_sem, seval, ↓reduceIte, u21]) (by simp -implicitDefEqProofs (disch := (first | omega | fail)) only [go_sem, seval, ↓reduceIte, u22]) (by simp -implicitDefEqProofs (disch := (first | omega | fail)) only [go_sem, seval, ↓reduceIte, u23]) (by simp -implicitDefEqProofs (disch := (first | omega | fail)) only [go_sem, seval, ↓reduceIte, u24]) (by simp -implicitDefEqProofs (disch := (first | omega | fail)) only [go_sem, seval, ↓reduceIte, u25]) gn go
theorem strB_snoc (l : List V) : strB (l ++ [.int .u8 119]) = strB l ++ ⟨#[119]⟩ := by
 unfold strB
 apply ByteArray.ext
 rw [ByteArray.data_append]
 apply Array.ext'
 rw [Array.toList_append, List.map_append]
 rfl
theorem strB_size (l : List V) : (strB l).size = l.length := by
 show (List.map byteOf l).toArray.size = _
 simp
theorem sb_add (l : List V) (h : l.length ≤ 1000000000) : strBin .add (strB l) ⟨#[119]⟩ = some (.str (strB (l ++ [.int .u8 119]))) := by
 rw [strB_snoc]
 simp only [strBin]
 rw [if_neg]
 rw [strB_size]
 have : (ByteArray.mk #[119]).size = 1 := rfl
 rw [this, show IntKind.i64.max = 9223372036854775807 by decide]
 omega
theorem comeLA_len (S : AT) (l : List V) : (comeLA S l).length ≤ 16 := by
 unfold comeLA
 split
 ·simp
 ·split
  ·refine Nat.le_trans (comeP_le2 _ _ _ _) ?_
   unfold openA
   exact Nat.le_trans (List.length_filter_le _ _) (by simp)
  ·simp
set_option maxHeartbeats 4000000 in
theorem do_k3 (q : BothQ hb g0 g0 M0 MD0 pp M0 rd MD0 qs S S) (hst : StepIs hb vf vp L l) (hll : l.length ≤ 1048576) (hc : StB g0 sb kd a n vf vp) (hs : ¬ (M0 sb ∨ MD0 sb)) (hR : ∀ b, R b) (hW : ∀ k, hb.n ≤ k → W k)
  (t0 : tr.get 0 = some (.ptr (some (pp, 0)))) (t1 : tr.get 1 = some (.ptr (some (rd, 0)))) (t5 : tr.get 5 = some (.ptr (some (sb, 0))))
  (hk : ∀ tr' g' pp' M MD, tr'.get 6 = some (.ptr (some (pp', 0))) → tr'.get 7 = some (.ptr (some (rd, 0))) → tr'.get 8 = some (.bool true) → BothQ hb g0 g' M0 MD0 pp' M rd MD qs (comeA S l) (comeA S l) → Q .ret ⟨⟨275, tr'⟩, []⟩ g') :
  GO ⟨Try.prog, true⟩ R W none Q (It.code ir19_k3 :: t) ⟨⟨275, tr⟩, []⟩ g0 := by
 have hRs := hR sb
 obtain ⟨c, c1, c2, d0, d1, d2, d3, d4⟩ := hc.c
 obtain ⟨hvf, hvp, hby⟩ := q.at' hst
 have hpo := hvp.one
 have hpl := hvp.lenV Try.underlying36
 obtain ⟨fx, rs, ff, _⟩ := first_lr hvp
 obtain ⟨v1, h1, r1, w1, ap1, o1, n1, k1, w1n, k1', ty1⟩ := app_own (n0 := g0.n) (h := g0) (v := .slice none 0 0 true) (l := []) (e := 5) (bytes := 1) (Own.nil _ _ _) (Nat.le_refl _) fx ff (allOne_byt hby) (by simp only [List.length_nil]; omega) (by simp only [List.length_nil]; omega)
 rw [List.nil_append] at o1
 have kp : ∀ k, k < h1.n → (h1.push (.cells (Blk.of [.int .u8 119]) 5)).get k = h1.get k := fun k hk => w_push_ne (by omega) _
 obtain ⟨v2, h2, r2, w2, ap2, o2, n2, k2, w2n, k2', ty2⟩ := app_own (n0 := g0.n) (h := h1.push (.cells (Blk.of [.int .u8 119]) 5)) (v := v1) (x := .slice (some (h1.n, 0)) 1 1 true) (l := l) (news := [.int .u8 119]) (rs := [h1.n]) (e := 5) (bytes := 1) (o1.old kp) (by simp; omega) rfl (first_one (w_push_eq rfl _)) rfl (by simp only [List.length_singleton]; omega) (by simp only [List.length_singleton]; omega)
 simp only [Heap.n_push] at n2
 have ko : ∀ k, k < g0.n → h2.get k = g0.get k := fun k hk => by rw [k2 k hk, kp k (by omega), k1 k hk]
 have hr1 : allB R r1 := allB_of fun b _ => hR b
 have hr2 : allB R r2 := allB_of fun b _ => hR b
 have hbn := q.hb0
 have hw1 : allB W w1 := allB_of fun b hb => hW b (by have := w1n b hb; omega)
 have hw2 : allB W w2 := allB_of fun b hb => hW b (by have := w2n b hb; omega)
 have q1 := q.push (by omega) ko
 obtain ⟨c, c1', c2', d0', d1', d2', d3', d4'⟩ := (hc.at' hs q1).c
 obtain ⟨v3, hsl, hv3⟩ := slice_own (t := 36) Try.underlying36 sz_5 o2 (by simp)
 simp -implicitDefEqProofs (disch := (first | omega | fail)) only [go_sem, seval, ↓reduceIte, reduceCtorEq, ir19_k3, t0, t5, c1, c2, d4, hRs, ↓hpl, appendV_of ap_36, ap1, ap2, hr1, hr2, hw1, hw2, c1', c2', d4', hsl]
 refine GCall.of (come_px q1.t.p hv3 (fun k hk => ?_) hby hR (fun b h => hW b (h.elim (fun h => by omega) (q1.t.mp b)))) ?_
 ·obtain ⟨_, h4, c, h5⟩ := hk
  exact ⟨Heap.lt_of_get h5, fun h => by have := q.t.p.lt k h.1; omega⟩
 rintro r h3 ⟨hq3, w, rfl, ow⟩
 have hch := hq3.1
 have hn3 := hch.n
 obtain ⟨M2, q2, hm2⟩ := q1.prog hq3
 obtain ⟨c, c1, c2, d0, d1, d2, d3, d4⟩ := (hc.at' hs q2).c
 obtain ⟨_, hvp2, _⟩ := q2.at' hst
 simp -implicitDefEqProofs (disch := (first | omega | fail)) only [go_sem, seval, ↓reduceIte, t1, t5, c1, c2, d4, hRs]
 have hF := q.t.p.fit
 have hfew := px_few q.t.p
 refine GCall.of (come_rx q2.t.d (fun a n x e => ⟨hfew a n x e, (hF a n x e).1⟩) hvp2 (fun k hk => ⟨by omega, fun h => by have := q2.t.md k h; omega⟩) hby hR (fun b h => hW b (q2.t.md b h))).any ?_
 rintro r h4 ⟨hq4, w', rfl, ow'⟩
 have hn4 := hq4.1
 have hk4 := hq4.2.1
 obtain ⟨MD, q3, hmd⟩ := q2.doc hq4
 obtain ⟨c, c1, c2, d0, d1, d2, d3, d4⟩ := (hc.at' hs q3).c
 obtain ⟨_, hvp3, _⟩ := q3.at' hst
 have hMl := q.t.p.lt
 have hMDl := q.t.d.lt
 have o4 : Own g0.n h4 v2 (l ++ [.int .u8 119]) 5 := Own.ofS ((Own.toS o2).keep fun b c hb hn => by
  have hlt := Heap.lt_of_get hb
  rw [hk4 b (by omega) (fun h => by have := hMDl b h; omega), hch.k b hlt (fun h => by have := hMl b h.1; omega)]; exact hb)
 have hby2 : Byt (l ++ [.int .u8 119]) := fun x hx => by
  rcases List.mem_append.1 hx with h | h
  ·exact hby x h
  ·rw [List.mem_singleton.1 h]; exact ⟨119, rfl, by decide, by decide⟩
 obtain ⟨s1, hc1⟩ := conv_lr o4.lr hby2
 obtain ⟨s2, hc2⟩ := conv_lr hvp3 hby
 have hs1 : allB R s1 := allB_of fun b _ => hR b
 have hs2 : allB R s2 := allB_of fun b _ => hR b
 have hadd := sb_add l (by omega)
 have hse := sb_eql (strB (l ++ [.int .u8 119])) (strB (l ++ [.int .u8 119]))
 rw [decide_eq_true rfl] at hse
 simp -implicitDefEqProofs (disch := (first | omega | fail)) only [go_sem, seval, ↓reduceIte, t5, c1, c2, d4, hRs, ↓cvS, hc1, hc2, hs1, hs2, hadd, hse]
 refine fill_l1 (n0 := g0.n) o4 (by simp; omega) hR (fun b h => hW b (by omega)) (by simp -implicitDefEqProofs (disch := (first | omega | fail)) only [go_sem, seval, ↓reduceIte]) (by simp -implicitDefEqProofs (disch := (first | omega | fail)) only [go_sem, seval, ↓reduceIte]) ?_
 intro tr' h5 u0 u1 u21 u22 u23 u24 u25 hn5 hk5
 replace u0 := u0.trans (show _ = some (V.ptr (some (pp, 0))) by simp -implicitDefEqProofs (disch := (first | omega | fail)) only [go_sem, seval, ↓reduceIte, reduceCtorEq, t0])
 replace u1 := u1.trans (show _ = some (V.ptr (some (rd, 0))) by simp -implicitDefEqProofs (disch := (first | omega | fail)) only [go_sem, seval, ↓reduceIte, t1])
 replace u21 := u21.trans (show _ = some w by simp -implicitDefEqProofs (disch := (first | omega | fail)) only [go_sem, seval, ↓reduceIte])
 replace u22 := u22.trans (show _ = some (V.int .i64 (comeE l)) by simp -implicitDefEqProofs (disch := (first | omega | fail)) only [go_sem, seval, ↓reduceIte])
 replace u23 := u23.trans (show _ = some w' by simp -implicitDefEqProofs (disch := (first | omega | fail)) only [go_sem, seval, ↓reduceIte])
 replace u24 := u24.trans (show _ = some (V.int .i64 (comeE l)) by simp -implicitDefEqProofs (disch := (first | omega | fail)) only [go_sem, seval, ↓reduceIte])
 replace u25 := u25.trans (show _ = some (V.bool true) by simp -implicitDefEqProofs (disch := (first | omega | fail)) only [go_sem, seval, ↓reduceIte])
 have hsb := (Own.toS o2).sblk
 have hk5' : ∀ b, b < g0.n ∨ h2.n ≤ b → h5.get b = h4.get b := fun b hb => hk5 b (by
  rcases hb with h | h
  ·exact .inl h
  ·rcases hsb with h6 | h6
   ·exact .inr (by omega)
   ·exact .inr (by omega))
 have q5 := q3.same (g' := h5) (by omega) fun k h1 h2 => hk5' k (by
  rcases h2 with h2 | h2 | h2
  ·exact .inl h2
  ·rcases hm2 k h2 with h3 | h3
   ·exact .inl (hMl k h3)
   ·exact .inr h3
  ·rcases hmd k h2 with h3 | h3
   ·exact .inl (hMDl k h3)
   ·exact .inr (by omega))
 have ow5 : OwnS 2 h2.n h5 w (comeLA S l).length (flatC (comeLA S l)) 41 := ow.keep fun b c hb hn => by
  have hlt := Heap.lt_of_get hb
  rw [hk5' b (.inr hn), hk4 b hlt (fun h => by have := hMDl b h; omega)]; exact hb
 have ow5' : OwnS 2 h3.n h5 w' (comeLA S l).length (flatC (comeLA S l)) 41 := ow'.keep fun b c hb hn => by
  rw [hk5' b (.inr (by omega))]; exact hb
 have hcl := comeLA_len S l
 simp -implicitDefEqProofs (disch := (first | omega | fail)) only [go_sem, seval, ↓reduceIte, u0, u1, u21, u23, u25]
 refine GCall.of (samecame_ok ow5.lr ow5'.lr hR (by omega)).any ?_
 rintro r g6 ⟨rfl, rfl⟩
 rw [decide_eq_true rfl]
 simp -implicitDefEqProofs (disch := (first | omega | fail)) only [go_sem, seval, ↓reduceIte, u22]
 refine GCall.of (num_ok _).any ?_
 rintro r g7 ⟨rfl, rfl⟩
 have e2 : (comeE l == comeE l) = true := by simp
 simp -implicitDefEqProofs (disch := (first | omega | fail)) only [go_sem, seval, ↓reduceIte, u24, e2]
 exact hk _ _ _ _ _ (by simp -implicitDefEqProofs (disch := (first | omega | fail)) only [go_sem, seval, ↓reduceIte]) (by simp -implicitDefEqProofs (disch := (first | omega | fail)) only [go_sem, seval, ↓reduceIte]) (by simp -implicitDefEqProofs (disch := (first | omega | fail)) only [go_sem, seval, ↓reduceIte]) q5
end Go.Proofs.Ytmimialblhlklaa
namespace Go.Proofs.Ytmimialblhlklaa
open Go Go.Vm
variable {hb g0 : Heap} {R W M0 MD0 : Set'} {pp rd sb : Nat} {qs : List Nat} {S : AT} {kd a n : Int} {vf vp : V} {L : List Te} {l : List V} {tr : Tr V} {Q : Ex → Fr → Heap → Prop} {t : List It}
structure Fork (g0 g1 g : Heap) (M0 : Set') (pp : Nat) (Mp : Set') (pc : Nat) (Mc : Set') (qs : List Nat) (Sp S : AT) : Prop where
 p : PX g Mp pp qs Sp
 c : PX g Mc pc qs S
 mp : ∀ k, Mp k → M0 k ∨ g1.n ≤ k
 dis : ∀ k, Mc k → ¬ (Mp k ∧ Mty g k)
 n : g1.n ≤ g.n
 k : ∀ k, k < g1.n → ¬ M0 k → g.get k = g1.get k
theorem Fork.step {g0 g1 g g' : Heap} {Mp Mc : Set'} {pc : Nat} {Sp S2 : AT} (f : Fork g0 g1 g M0 pp Mp pc Mc qs Sp S) (hq : PXQ g g' Mp pp qs S2) : ∃ Mp', Fork g0 g1 g' M0 pp Mp' pc Mc qs S2 S := by
 obtain ⟨p, c, mp, dis, n, k⟩ := f
 obtain ⟨hc, M', hx, hm⟩ := hq
 have hcn := hc.n
 refine ⟨M', hx, c.fr hc dis, fun k h => (hm k h).elim (mp k) fun h => .inr (by omega), fun k h1 h2 => ?_, by omega, fun k h1 h2 => ?_⟩
 ·have hlt := c.lt k h1
  have e := hc.k k hlt (dis k h1)
  refine dis k h1 ⟨(hm k h2.1).resolve_right (by omega), ?_⟩
  have h3 := h2.2
  unfold Mty at h3 ⊢
  rw [e] at h3; exact h3
 ·rw [hc.k k (by omega) fun h => (mp k h.1).elim h2 fun h => by omega]
  exact ‹∀ k, k < g1.n → ¬ M0 k → g.get k = g1.get k› k h1 h2
set_option maxHeartbeats 4000000 in
theorem do_k6 (q : BothQ hb g0 g0 M0 MD0 pp M0 rd MD0 qs S S) (hR : ∀ b, R b) (hW : ∀ k, hb.n ≤ k → W k)
  (t0 : tr.get 0 = some (.ptr (some (pp, 0)))) (t1 : tr.get 1 = some (.ptr (some (rd, 0))))
  (hk : ∀ tr' g' pp' M MD, tr'.get 6 = some (.ptr (some (pp', 0))) → tr'.get 7 = some (.ptr (some (rd, 0))) → tr'.get 8 = some (.bool true) → BothQ hb g0 g' M0 MD0 pp' M rd MD qs S S → Q .ret ⟨⟨275, tr'⟩, []⟩ g') :
  GO ⟨Try.prog, true⟩ R W none Q (It.code ir19_k6 :: t) ⟨⟨275, tr⟩, []⟩ g0 := by
 have hbn := q.hb0
 simp -implicitDefEqProofs (disch := (first | omega | fail)) only [go_sem, seval, ↓reduceIte, ir19_k6, t0]
 refine GCall.of (copy_px q.t.p hR) ?_
 rintro r g1 ⟨n1, k1, pc, Mc, rfl, xc, hmc⟩
 simp -implicitDefEqProofs (disch := (first | omega | fail)) only [go_sem, seval, ↓reduceIte, reduceCtorEq, t0]
 refine GCall.of (same_px xc (q.t.p.old n1 k1) hR) ?_
 rintro r g2 ⟨⟨b, rfl, hb'⟩, n2, k2⟩
 obtain rfl : b = true := hb'.2 (sameA_refl qs S)
 have k02 : ∀ k, k < g0.n → g2.get k = g0.get k := fun k hk => by rw [k2 k (by omega), k1 k hk]
 have hMty : ∀ k, M0 k → Mty g2 k → Mty g0 k := fun k h1 h2 => by
  unfold Mty at h2 ⊢
  rw [k02 k (q.t.p.lt k h1)] at h2; exact h2
 have f2 : Fork g0 g2 g2 M0 pp M0 pc Mc qs S S := ⟨q.t.p.old (by omega) k02, xc.old n2 k2, fun k h => .inl h, fun k h h2 => (hmc k h).elim (fun h3 => h3.2 (hMty k h2.1 h2.2)) fun h3 => by have := q.t.p.lt k h2.1; omega, Nat.le_refl _, fun _ _ _ => rfl⟩
 have kp : ∀ k, k < g2.n → (g2.push (.cells (Blk.of [.int .u8 0]) 5)).get k = g2.get k := fun k hk => w_push_ne (by omega) _
 have f3 : Fork g0 g2 (g2.push (.cells (Blk.of [.int .u8 0]) 5)) M0 pp M0 pc Mc qs S S := ⟨f2.p.old (by simp) kp, f2.c.old (by simp) kp, f2.mp, fun k h h2 => f2.dis k h ⟨h2.1, by
  have h3 := h2.2
  unfold Mty at h3 ⊢
  rw [kp k (f2.c.lt k h)] at h3; exact h3⟩, by simp, fun k h _ => kp k h⟩
 simp -implicitDefEqProofs (disch := (first | omega | fail)) only [go_sem, seval, ↓reduceIte, reduceCtorEq, t0]
 refine GCall.of (come_px f3.p (LR.push g2 [.int .u8 0] 5) (fun k hk => ⟨by rw [hk]; simp, fun h => by have := q.t.p.lt k h.1; omega⟩) (fun x hx => by rw [List.mem_singleton.1 hx]; exact ⟨0, rfl, by decide, by decide⟩) hR (fun b h => hW b (h.elim (fun h => by simp at h; omega) (q.t.mp b)))) ?_
 rintro r g4 ⟨hq4, w, rfl, ow⟩
 obtain ⟨M4, f4⟩ := f3.step hq4
 have hM4 : ∀ b, M4 b → W b := fun b h => hW b ((f4.mp b h).elim (q.t.mp b) fun h => by omega)
 simp -implicitDefEqProofs (disch := (first | omega | fail)) only [go_sem, seval, ↓reduceIte, reduceCtorEq, t0]
 refine GCall.of (claim_px (L := []) (S0 := fun _ => False) f4.p ⟨rfl, .inl ⟨rfl, .inl rfl⟩⟩ hR hM4 0) ?_
 rintro r g5 ⟨hq5, rfl⟩
 obtain ⟨M5, f5⟩ := f4.step hq5
 have hM5 : ∀ b, M5 b → W b := fun b h => hW b ((f5.mp b h).elim (q.t.mp b) fun h => by omega)
 simp -implicitDefEqProofs (disch := (first | omega | fail)) only [go_sem, seval, ↓reduceIte, reduceCtorEq, t0]
 refine GCall.of (take_px f5.p hR hM5 0 0) ?_
 rintro r g6 ⟨hq6, s, rfl, os, _⟩
 obtain ⟨M6, f6⟩ := f5.step hq6
 have hn6 := f6.n
 simp -implicitDefEqProofs (disch := (first | omega | fail)) only [go_sem, seval, ↓reduceIte, t1]
 have hkk : ∀ k, k < g0.n → ¬ M0 k → g6.get k = g0.get k := fun k h1 h2 => by rw [f6.k k (by omega) h2]; exact k02 k h1
 refine hk _ _ pc Mc MD0 (by simp -implicitDefEqProofs (disch := (first | omega | fail)) only [go_sem, seval, ↓reduceIte]) (by simp -implicitDefEqProofs (disch := (first | omega | fail)) only [go_sem, seval, ↓reduceIte]) (by simp -implicitDefEqProofs (disch := (first | omega | fail)) only [go_sem, seval, ↓reduceIte]) ⟨⟨f6.c, q.t.d.same (by omega) fun k h => hkk k (q.t.d.lt k h) fun h2 => q.t.dis k h2 h, fun k h => (hmc k h).elim (fun h => q.t.mp k h.1) fun h => by omega, q.t.md, fun k h h2 => (hmc k h).elim (fun h => q.t.dis k h.1 h2) fun h => by have := q.t.d.lt k h2; omega, by omega, fun k h => ?_⟩, fun k h => (hmc k h).imp (fun h => h.1) id, fun k h => .inl h, hbn, by omega, fun k h1 h2 => hkk k h1 fun h => h2 (.inl h)⟩
 rw [hkk k (by omega) fun h2 => by have := q.t.mp k h2; omega]
 exact q.t.old k h
end Go.Proofs.Ytmimialblhlklaa
