/- The program's pool: what Drops does, exactly. -/
import Derived.Test.YtfgdpgagcnelpaaR7
set_option linter.unusedVariables false
set_option linter.unusedSimpArgs false
set_option linter.unusedSimpArgs false
set_option maxRecDepth 100000
set_option linter.unusedVariables false
set_option linter.unusedSimpArgs false
namespace Go.Proofs.Ytfgdpgagcnelpaa
open Go Go.Vm
theorem heldI_mem (S : PS) : ∀ k x, x < k → S.ho x ≠ 0 → x ∈ heldI S k
  | 0, x, h, _ => by omega
  | k + 1, x, h, h0 => by
    simp only [heldI, List.mem_append]
    by_cases e : x = k
    · subst e; exact .inr (by rw [if_neg h0]; simp)
    · exact .inl (heldI_mem S k x (by omega) h0)
theorem heldI_cnt (S : PS) (k : Int) : ∀ n, (((heldI S n).countP fun x => decide (S.ow x = k) : Nat) : Int) = cnt (fun i => decide (S.ho i ≠ 0 ∧ S.ow i = k)) n
  | 0 => rfl
  | n + 1 => by
    simp only [heldI, cnt, List.countP_append]
    rw [← heldI_cnt S k n]
    by_cases e : S.ho n = 0
    · simp [e]
    · by_cases e2 : S.ow n = k <;> simp [e, e2]
theorem PoolAt.congr {h : Heap} {bp : Nat} {L : PL} {S S' : PS} (hp : PoolAt h bp L S) (e1 : S'.n = S.n) (e2 : S'.na = S.na) (e3 : ∀ i, i < S.n → S'.ow i = S.ow i) (e4 : ∀ i, i < S.n → S'.ho i = S.ho i) (e5 : ∀ i, i < S.na → S'.qu i = S.qu i) (e6 : ∀ i j, i < S.n → j < 256 → S'.byt i j = S.byt i j) (e7 : ∀ i, i < S.na → S'.us i = S.us i) : PoolAt h bp L S' := by
  obtain ⟨pos, ⟨c, c1, ⟨c2, c3, c4, c5⟩⟩, ⟨f, f1, ⟨f2, f3, f4, f5, f6⟩⟩, ⟨q, q1, ⟨q2, q3, q4⟩⟩, ⟨u, u1, ⟨u2, u3, u4⟩⟩, ne, lo⟩ := hp
  refine ⟨by rw [e1]; exact pos, ⟨c, c1, ⟨c2, by rw [e1]; exact c3, by rw [e2]; exact c4, by rw [e2]; exact c5⟩⟩, ⟨f, f1, ⟨by rw [e1]; exact f2, f3, fun i hi => ?_, fun i hi => ?_, fun i j hi hj => ?_⟩⟩, ⟨q, q1, ⟨by rw [e2]; exact q2, q3, fun i hi => ?_⟩⟩, ⟨u, u1, ⟨by rw [e2]; exact u2, u3, fun i hi => ?_⟩⟩, ne, by rw [e1, e2]; exact lo⟩
  · rw [e1] at hi; rw [e3 i hi]; exact f4 i hi
  · rw [e1] at hi; rw [e4 i hi]; exact f5 i hi
  · rw [e1] at hi; rw [e6 i j hi hj]; exact f6 i j hi hj
  · rw [e2] at hi; rw [e5 i hi]; exact q4 i hi
  · rw [e2] at hi; rw [e7 i hi]; exact u4 i hi
structure DX (h0 ha : Heap) (tr : Tr V) (bp : Nat) (L : PL) (S : PS) (k : Int) (j : Nat) (g : Heap) : Prop where
  n : ha.n + 2 ≤ g.n
  mark : g.get ha.n = some (.deferred true)
  loop : g.get (ha.n + 1) = some (.loop ⟨.ready, none, ⟨36, tr⟩, [19], (rc21 0).1, (rc21 0).2, ha.n⟩)
  old : ∀ b, h0.n ≤ b → b < ha.n → b ≠ h0.n + 2 → g.get b = ha.get b
  cnt : ∃ c, g.get (h0.n + 2) = some (.cells c 3) ∧ c.size = 1 ∧ c.ro = false ∧ c.get 0 = .int .i64 ((((heldI S S.n).take j).countP fun x => decide (S.ow x = k) : Nat) : Int)
  pool : ∃ S', PoolAt g bp L S' ∧ WF S' ∧ S'.n = S.n ∧ S'.na = S.na ∧ S'.qu = S.qu ∧ S'.ow = S.ow ∧ S'.byt = S.byt ∧ ∀ x, S'.ho x = if x ∈ (heldI S S.n).take j ∧ S.ow x = k then 0 else S.ho x
theorem DX.keep {h0 ha : Heap} {tr : Tr V} {bp : Nat} {L : PL} {S : PS} {k : Int} (kk : DK h0 ha tr bp L k) {j : Nat} {g g' : Heap} (d : DX h0 ha tr bp L S k j g) (hn : g.n ≤ g'.n) (hk : ∀ b, b < g.n → g'.get b = g.get b) : DX h0 ha tr bp L S k j g' := by
  have h1 := d.n
  have h2 := kk.hn
  refine ⟨by omega, by rw [hk _ (by omega)]; exact d.mark, by rw [hk _ (by omega)]; exact d.loop, fun b hb hb2 hb3 => by rw [hk _ (by omega)]; exact d.old b hb hb2 hb3, ?_, ?_⟩
  · obtain ⟨c, e, r⟩ := d.cnt
    exact ⟨c, by rw [hk _ (by omega)]; exact e, r⟩
  · obtain ⟨S', hp, r⟩ := d.pool
    exact ⟨S', hp.old hk, r⟩
theorem take_x {l : List Nat} {j x : Nat} (hx : l[j]? = some x) : l.take (j + 1) = l.take j ++ [x] := by rw [List.take_add_one, hx]; rfl
theorem not_take {l : List Nat} {j x : Nat} (hn : l.Nodup) (hx : l[j]? = some x) : x ∉ l.take j := fun h => by
  have h2 : (l.take (j + 1)).Nodup := hn.sublist (List.take_sublist _ _)
  rw [take_x hx, List.nodup_append] at h2
  exact h2.2.2 x h x (by simp) rfl
theorem DX.next {h0 ha : Heap} {tr : Tr V} {bp : Nat} {L : PL} {S : PS} {k : Int} (kk : DK h0 ha tr bp L k) {j x : Nat} (hx : (heldI S S.n)[j]? = some x) (hne : S.ow x ≠ k) {g g' : Heap} (d : DX h0 ha tr bp L S k j g) (hn : g.n ≤ g'.n) (hl : g'.get (ha.n + 1) = some (.loop ⟨.ready, none, ⟨36, tr⟩, [19], (rc21 0).1, (rc21 0).2, ha.n⟩)) (hk : ∀ b, b < g.n → b ≠ ha.n + 1 → g'.get b = g.get b) : DX h0 ha tr bp L S k (j + 1) g' := by
  have h1 := d.n
  have h2 := kk.hn
  have hbp := kk.bp
  have hfb := kk.fb
  have hub := kk.ub
  have hqb := kk.qb
  have ht := take_x hx
  refine ⟨by omega, by rw [hk _ (by omega) (by omega)]; exact d.mark, hl, fun b hb hb2 hb3 => by rw [hk _ (by omega) (by omega)]; exact d.old b hb hb2 hb3, ?_, ?_⟩
  · obtain ⟨c, e, r1, r2, r3⟩ := d.cnt
    refine ⟨c, by rw [hk _ (by omega) (by omega)]; exact e, r1, r2, ?_⟩
    rw [r3, ht, List.countP_append]
    simp [hne]
  · obtain ⟨S', hp, r1, r2, r3, r4, r5, r5b, r6⟩ := d.pool
    refine ⟨S', hp.same' (hk _ (by omega) (by omega)) (hk _ (by omega) (by omega)) (hk _ (by omega) (by omega)) (hk _ (by omega) (by omega)), r1, r2, r3, r4, r5, r5b, fun y => ?_⟩
    rw [r6 y, ht]
    by_cases e : y = x
    · subst e
      rw [if_neg (fun h => hne h.2), if_neg (fun h => hne h.2)]
    · simp [e]
set_option maxHeartbeats 1000000 in
theorem dropx_round {h0 ha : Heap} {tr : Tr V} {bp : Nat} {L : PL} {S : PS} {k : Int} {W : Set'} (kk : DK h0 ha tr bp L k) (hW : ∀ b, h0.n ≤ b → W b) (hWf : W L.fb) (hWu : W L.ub) {j x : Nat} {g : Heap} (hS : S.n ≤ 256) (hj : j < (heldI S S.n).length) (hx : (heldI S S.n)[j]? = some x) (d : DX h0 ha tr bp L S k j g) :
    SY ⟨Try.prog, true⟩ (ha.n + 1) [.agg (rowOf S x)] g (fun _ => True) W (fun v g' => v = .bool true ∧ DX h0 ha tr bp L S k (j + 1) g') := by
  have hkn := kk.hn
  have hdn := d.n
  have hmem : x ∈ heldI S S.n := List.mem_of_getElem? hx
  obtain ⟨hxn, hx0⟩ := heldI_lt S S.n x hmem
  refine SY.go hm d.loop trivial (hW _ (by omega)) rfl ir21_a0_eq ir21_b0_eq ?_
  have t2 := kk.t2
  have t3 := kk.t3
  have t6 := kk.t6
  obtain ⟨S', hp, hwf, en, ena, equ, eow, eby, eho⟩ := d.pool
  have hnt := not_take (heldI_nodup S S.n) hx
  have htk := take_x hx
  have hxo : S'.ho x ≠ 0 := by rw [eho x, if_neg (fun h => hnt h.1)]; exact hx0
  have g0 : g.get h0.n = some (.cells (Blk.of [.ptr (some (bp, 0))]) 23) := by rw [d.old _ (Nat.le_refl _) (by omega) (by omega)]; exact kk.b0
  have g1 : g.get (h0.n + 1) = some (.cells (Blk.of [.int .i64 k]) 3) := by rw [d.old _ (by omega) (by omega) (by omega)]; exact kk.b1
  obtain ⟨cc, gc, cs, cro, cc0⟩ := d.cnt
  obtain ⟨cx, ecx⟩ : ∃ cx : Nat, cx = ((heldI S S.n).take j).countP fun x => decide (S.ow x = k) := ⟨_, rfl⟩
  rw [← ecx] at cc0
  have cxj : cx ≤ j := by rw [ecx]; exact Nat.le_trans List.countP_le_length (by rw [List.length_take]; omega)
  have hbp := kk.bp
  have hfb := kk.fb
  have hub := kk.ub
  have hqb := kk.qb
  obtain ⟨c, h1, ic⟩ := hp.p
  have hsz := ic.size
  have c0 := ic.c0
  simp -implicitDefEqProofs (disch := (first | omega | (simp -implicitDefEqProofs only [szs, ne_eq] <;> omega) | fail)) only [go_sem, Nat.reduceAdd, Nat.reduceSub, Nat.reduceMul, Nat.reduceLT, Nat.reduceMod, Nat.reduceDiv, Nat.reduceEqDiff, Nat.reduceBEq, Nat.reduceLeDiff, ↓reduceIte, reduceCtorEq, Int.reduceAdd, Int.reduceSub, Int.reduceLT, Int.reduceLE, Int.reduceBEq, Int.reduceEq, Int.reduceToNat, ir21_a0, t2, t3, t6, rowOf, rowF]
  refine ⟨hW _ (by omega), _, d.loop, rfl, ?_⟩
  by_cases hk : S.ow x = k
  · subst hk
    obtain ⟨ha0, ha1⟩ := hwf.ow x (by omega) hxo
    obtain ⟨a, ha'⟩ := Int.eq_ofNat_of_zero_le ha0
    have han : a < S'.na := by omega
    have hus := hwf.us_pos (by omega) hxo ha' han
    simp -implicitDefEqProofs (disch := (first | omega | (simp -implicitDefEqProofs only [szs, ne_eq] <;> omega) | fail)) only [go_sem, Nat.reduceAdd, Nat.reduceSub, Nat.reduceMul, Nat.reduceLT, Nat.reduceMod, Nat.reduceDiv, Nat.reduceEqDiff, Nat.reduceBEq, Nat.reduceLeDiff, ↓reduceIte, reduceCtorEq, Int.reduceAdd, Int.reduceSub, Int.reduceLT, Int.reduceLE, Int.reduceBEq, Int.reduceEq, Int.reduceToNat, ir21_b0, t2, t3, t6, g0, g1, h1, c0]
    obtain ⟨h2, e2, hn2, hl2, hk2⟩ := drH g (ha.n + 1) (by omega) x (S.ow x) (S.ho x) (O.loop ⟨.busy, none, ⟨36, tr⟩, [19], (rc21 0).1, (rc21 0).2, ha.n⟩)
    rw [e2]
    have hp2 : PoolAt h2 bp L S' := hp.same' (hk2 _ (by omega) (by omega)) (hk2 _ (by omega) (by omega)) (hk2 _ (by omega) (by omega)) (hk2 _ (by omega) (by omega))
    refine GCallD.of (R' := fun _ => True) (W' := fun b => b = L.fb ∨ b = L.ub) ((free_ok hp2 trivial trivial trivial (.inl rfl) (.inr rfl) x a (by omega) han ha' hus).kept) ?_
    rintro v h3 ⟨hp3, vf⟩
    have hvn := vf.n
    have hk3 : ∀ b, b < g.n → b ≠ ha.n + 1 → b ≠ L.fb → b ≠ L.ub → h3.get b = g.get b := fun b hb hb1 hb2 hb3 => by
      rw [vf.get b (by omega) (by rintro (e | e) <;> omega)]; exact hk2 b hb hb1
    have hl3 : h3.get (ha.n + 1) = some (O.loop ⟨.busy, none, ⟨36, tr⟩, [19], (rc21 0).1, (rc21 0).2, ha.n⟩) := by
      rw [vf.get _ (by omega) (by rintro (e | e) <;> omega)]; exact hl2
    have hc3 : h3.get (h0.n + 2) = some (.cells cc 3) := by rw [hk3 _ (by omega) (by omega) (by omega) (by omega)]; exact gc
    have hlen := heldI_len S S.n
    have hWc := hW (h0.n + 2) (by omega)
    simp -implicitDefEqProofs (disch := (first | omega | (simp -implicitDefEqProofs only [szs, ne_eq] <;> omega) | fail)) only [go_sem, Nat.reduceAdd, Nat.reduceSub, Nat.reduceMul, Nat.reduceLT, Nat.reduceMod, Nat.reduceDiv, Nat.reduceEqDiff, Nat.reduceBEq, Nat.reduceLeDiff, ↓reduceIte, reduceCtorEq, Int.reduceAdd, Int.reduceSub, Int.reduceLT, Int.reduceLE, Int.reduceBEq, Int.reduceEq, Int.reduceToNat, t6, hc3, cc0, cro, hWc, hl3]
    refine ⟨fun b _ e => by rcases e with rfl | rfl <;> assumption, _, rfl, rfl, ?_⟩
    obtain ⟨g5, e5, hn5, hl5, hc5, hk5⟩ := drI h3 (h0.n + 2) (ha.n + 1) (by omega) (by omega) (by omega) (O.cells (cc.set 0 (V.int IntKind.i64 (cx + 1))) 3) (O.loop ⟨.ready, none, ⟨36, tr⟩, [19], (rc21 0).1, (rc21 0).2, ha.n⟩)
    show DX h0 ha tr bp L S _ (j + 1) ((h3.set (h0.n + 2) (O.cells (cc.set 0 (V.int IntKind.i64 (cx + 1))) 3)).set (ha.n + 1) (O.loop ⟨.ready, none, ⟨36, tr⟩, [19], (rc21 0).1, (rc21 0).2, ha.n⟩))
    rw [e5]
    refine ⟨by omega, ?_, hl5, fun b hb hb2 hb3 => ?_, ⟨_, hc5, by rw [Blk.size_set]; exact cs, by rw [Blk.ro_set]; exact cro, ?_⟩, ?_⟩
    · rw [hk5 _ (by omega) (by omega), hk3 _ (by omega) (by omega) (by omega) (by omega)]; exact d.mark
    · rw [hk5 _ (by omega) (by omega), hk3 _ (by omega) (by omega) (by omega) (by omega)]; exact d.old b hb hb2 hb3
    · rw [htk, List.countP_append, ← ecx, w_bset_eq rfl]
      simp
    · refine ⟨(S'.setHo x 0).setUs a (S'.us a - 1), hp3.same' (hk5 _ (by omega) (by omega)) (hk5 _ (by omega) (by omega)) (hk5 _ (by omega) (by omega)) (hk5 _ (by omega) (by omega)), hwf.free1 (by omega) hxo ha' han, en, ena, equ, eow, eby, fun y => ?_⟩
      simp only [PS.setUs, PS.setHo, htk]
      by_cases e : y = x
      · subst e; simp
      · rw [if_neg e, eho y]; simp [e]
  · simp -implicitDefEqProofs (disch := (first | omega | (simp -implicitDefEqProofs only [szs, ne_eq] <;> omega) | fail)) only [go_sem, Nat.reduceAdd, Nat.reduceSub, Nat.reduceMul, Nat.reduceLT, Nat.reduceMod, Nat.reduceDiv, Nat.reduceEqDiff, Nat.reduceBEq, Nat.reduceLeDiff, ↓reduceIte, reduceCtorEq, Int.reduceAdd, Int.reduceSub, Int.reduceLT, Int.reduceLE, Int.reduceBEq, Int.reduceEq, Int.reduceToNat, ir21_b0, t2, t3, t6, g0, g1]
    refine ⟨_, rfl, rfl, d.next kk hx hk ?_ ?_ ?_⟩
    · simp
    · simp -implicitDefEqProofs (disch := (first | omega | (simp -implicitDefEqProofs only [szs, ne_eq] <;> omega) | fail)) only [go_sem, Nat.reduceAdd, Nat.reduceSub, Nat.reduceMul, Nat.reduceLT, Nat.reduceMod, Nat.reduceDiv, Nat.reduceEqDiff, Nat.reduceBEq, Nat.reduceLeDiff, ↓reduceIte, reduceCtorEq, Int.reduceAdd, Int.reduceSub, Int.reduceLT, Int.reduceLE, Int.reduceBEq, Int.reduceEq, Int.reduceToNat]; rfl
    · intro b hb hne
      simp -implicitDefEqProofs (disch := (first | omega | (simp -implicitDefEqProofs only [szs, ne_eq] <;> omega) | fail)) only [go_sem, Nat.reduceAdd, Nat.reduceSub, Nat.reduceMul, Nat.reduceLT, Nat.reduceMod, Nat.reduceDiv, Nat.reduceEqDiff, Nat.reduceBEq, Nat.reduceLeDiff, ↓reduceIte, reduceCtorEq, Int.reduceAdd, Int.reduceSub, Int.reduceLT, Int.reduceLE, Int.reduceBEq, Int.reduceEq, Int.reduceToNat]
end Go.Proofs.Ytfgdpgagcnelpaa

namespace Go.Proofs.Ytfgdpgagcnelpaa
open Go Go.Vm
theorem dropx_tail {h ha : Heap} {R W : Set'} {bp : Nat} {L : PL} {S : PS} {k : Int} {tr : Tr V} {Q : Ex → Fr → Heap → Prop} {t : List It} (hS : S.n ≤ 256) (kk : DK h ha tr bp L k) (hR : ∀ b, R b) (hW : ∀ b, h.n ≤ b → W b) (hWf : W L.fb) (hWu : W L.ub)
    (t18 : tr.get 18 = some (.func 54 [] [.ptr (some (h.n + 1 + 1 + 1, 0))])) (hG : GatherAt ha (h.n + 1 + 1 + 1) (heldL S S.n)) (hd : DX h ha tr bp L S k 0 ((ha.push (.deferred true)).push (.loop ⟨.ready, none, ⟨36, tr⟩, [19], (rc21 0).1, (rc21 0).2, ha.n⟩)))
    (hk : ∀ g, DX h ha tr bp L S k (heldI S S.n).length g → GO ⟨Try.prog, true⟩ R W none Q t ⟨⟨36, tr⟩, [ha.n]⟩ (g.set (ha.n + 1) (.loop ⟨.exhausted, none, ⟨36, tr⟩, [19], (rc21 0).1, (rc21 0).2, ha.n⟩))) :
    GRange ⟨Try.prog, true⟩ R W none Q (.tmp 18) #[19] (rc21 0).1 (rc21 0).2 t ⟨⟨36, tr⟩, []⟩ ha := by
  refine GRange.outer (k := 54) (xs := []) (ys := [.ptr (some (h.n + 1 + 1 + 1, 0))]) (by simp -implicitDefEqProofs (disch := (first | omega | (simp -implicitDefEqProofs only [szs, ne_eq] <;> omega) | fail)) only [go_sem, Nat.reduceAdd, Nat.reduceSub, Nat.reduceMul, Nat.reduceLT, Nat.reduceMod, Nat.reduceDiv, Nat.reduceEqDiff, Nat.reduceBEq, Nat.reduceLeDiff, ↓reduceIte, reduceCtorEq, Int.reduceAdd, Int.reduceSub, Int.reduceLT, Int.reduceLE, Int.reduceBEq, Int.reduceEq, Int.reduceToNat, t18]) ca_54 ?_
  have hkn := kk.hn
  have hlen := heldI_len S S.n
  refine SF.mono (SF.foot (seq54 (ha := ha) (b3 := h.n + 1 + 1 + 1) (l := ha.n + 1) (F := heldL S S.n) (nn := (heldI S S.n).length) (W := W) (fun j g => DX h ha tr bp L S k j g) (heldL_len2 S S.n) (by omega) ?_ hG hd (fun j g g' d h1 h2 => d.keep kk h1 h2) (fun j g d => ⟨by have := d.n; omega, by have := d.n; simp; omega, fun b hb hb2 => d.old b (by omega) hb2 (by omega)⟩) ?_) (fun b _ => hR b) (fun b hb => hb)) ?_
  · rw [heldL_flat]; exact flat_int S _
  · intro j g hj d
    have hx : (heldI S S.n)[j]? = some (heldI S S.n)[j] := List.getElem?_eq_getElem hj
    have hrow : ((heldL S S.n).drop (j * 3)).take 3 = rowOf S (heldI S S.n)[j] := by rw [heldL_flat]; exact flat_row _ (fun x => rfl) _ _ _ hx
    rw [hrow]
    exact dropx_round kk (fun b hb => .inr (hW b hb)) (.inr hWf) (.inr hWu) hS hj hx d
  · rintro v g d
    exact ⟨_, d.loop, by simp, hW _ (by omega), hk g d⟩
theorem drops_bad {h : Heap} {R W : Set'} {bp : Nat} {L : PL} {S : PS} (hp : PoolAt h bp L S) (hR : ∀ b, R b) (k : Int) (hk : ¬ (0 ≤ k ∧ k < S.na)) :
    SF ⟨Try.prog, true⟩ 21 [.ptr (some (bp, 0)), .int .i64 k] h R W fun v h' => v = .tuple [.int .i64 0, .int .i64 2] ∧ PoolAt h' bp L S := by
  refine SF.go hm Try.func21 ir21_eq ?_
  simp -implicitDefEqProofs (disch := (first | omega | (simp -implicitDefEqProofs only [szs, ne_eq] <;> omega) | fail)) only [go_sem, Nat.reduceAdd, Nat.reduceSub, Nat.reduceMul, Nat.reduceLT, Nat.reduceMod, Nat.reduceDiv, Nat.reduceEqDiff, Nat.reduceBEq, Nat.reduceLeDiff, ↓reduceIte, reduceCtorEq, Int.reduceAdd, Int.reduceSub, Int.reduceLT, Int.reduceLE, Int.reduceBEq, Int.reduceEq, Int.reduceToNat, ir21]
  refine GCall.of (there_ok ((hp.push _).push _) (.inr (hR _))).any ?_
  rintro v h' ⟨rfl, rfl⟩
  simp -implicitDefEqProofs (disch := (first | omega | (simp -implicitDefEqProofs only [szs, ne_eq] <;> omega) | fail)) only [go_sem, Nat.reduceAdd, Nat.reduceSub, Nat.reduceMul, Nat.reduceLT, Nat.reduceMod, Nat.reduceDiv, Nat.reduceEqDiff, Nat.reduceBEq, Nat.reduceLeDiff, ↓reduceIte, reduceCtorEq, Int.reduceAdd, Int.reduceSub, Int.reduceLT, Int.reduceLE, Int.reduceBEq, Int.reduceEq, Int.reduceToNat]
  refine GCall.of (account_ok ((hp.push _).push _) (.inr (hR _)) k).any ?_
  rintro v h' ⟨rfl, rfl⟩
  rw [show decide (0 ≤ k ∧ k < S.na) = false by simpa using hk]
  simp -implicitDefEqProofs (disch := (first | omega | (simp -implicitDefEqProofs only [szs, ne_eq] <;> omega) | fail)) only [go_sem, Nat.reduceAdd, Nat.reduceSub, Nat.reduceMul, Nat.reduceLT, Nat.reduceMod, Nat.reduceDiv, Nat.reduceEqDiff, Nat.reduceBEq, Nat.reduceLeDiff, ↓reduceIte, reduceCtorEq, Int.reduceAdd, Int.reduceSub, Int.reduceLT, Int.reduceLE, Int.reduceBEq, Int.reduceEq, Int.reduceToNat]
  exact (hp.push _).push _
set_option maxHeartbeats 1000000 in
theorem drops_ok {h : Heap} {R W : Set'} {bp : Nat} {L : PL} {S : PS} (hp : PoolAt h bp L S) (w : WF S) (hR : ∀ b, R b) (hWf : W L.fb) (hWu : W L.ub) {a : Nat} (haa : a < S.na) :
    SF ⟨Try.prog, true⟩ 21 [.ptr (some (bp, 0)), .int .i64 a] h R W fun v h' => v = .tuple [.int .i64 (S.us a), .int .i64 0] ∧ PoolAt h' bp L (S.drops a) := by
  obtain ⟨_, g1, _⟩ := hp.p
  obtain ⟨_, g2, _⟩ := hp.f
  obtain ⟨_, g3, _⟩ := hp.q
  obtain ⟨_, g4, _⟩ := hp.u
  have hbp := Heap.lt_of_get g1
  have hfb := Heap.lt_of_get g2
  have hqb := Heap.lt_of_get g3
  have hub := Heap.lt_of_get g4
  refine SF.go hm Try.func21 ir21_eq ?_
  simp -implicitDefEqProofs (disch := (first | omega | (simp -implicitDefEqProofs only [szs, ne_eq] <;> omega) | fail)) only [go_sem, Nat.reduceAdd, Nat.reduceSub, Nat.reduceMul, Nat.reduceLT, Nat.reduceMod, Nat.reduceDiv, Nat.reduceEqDiff, Nat.reduceBEq, Nat.reduceLeDiff, ↓reduceIte, reduceCtorEq, Int.reduceAdd, Int.reduceSub, Int.reduceLT, Int.reduceLE, Int.reduceBEq, Int.reduceEq, Int.reduceToNat, ir21]
  refine GCall.of (there_ok ((hp.push _).push _) (.inr (hR _))).any ?_
  rintro v h' ⟨rfl, rfl⟩
  simp -implicitDefEqProofs (disch := (first | omega | (simp -implicitDefEqProofs only [szs, ne_eq] <;> omega) | fail)) only [go_sem, Nat.reduceAdd, Nat.reduceSub, Nat.reduceMul, Nat.reduceLT, Nat.reduceMod, Nat.reduceDiv, Nat.reduceEqDiff, Nat.reduceBEq, Nat.reduceLeDiff, ↓reduceIte, reduceCtorEq, Int.reduceAdd, Int.reduceSub, Int.reduceLT, Int.reduceLE, Int.reduceBEq, Int.reduceEq, Int.reduceToNat]
  refine GCall.of (account_ok ((hp.push _).push _) (.inr (hR _)) a).any ?_
  rintro v h' ⟨rfl, rfl⟩
  have hk : 0 ≤ (a : Int) ∧ (a : Int) < S.na := by omega
  · rw [decide_eq_true hk]
    simp -implicitDefEqProofs (disch := (first | omega | (simp -implicitDefEqProofs only [szs, ne_eq] <;> omega) | fail)) only [go_sem, Nat.reduceAdd, Nat.reduceSub, Nat.reduceMul, Nat.reduceLT, Nat.reduceMod, Nat.reduceDiv, Nat.reduceEqDiff, Nat.reduceBEq, Nat.reduceLeDiff, ↓reduceIte, reduceCtorEq, Int.reduceAdd, Int.reduceSub, Int.reduceLT, Int.reduceLE, Int.reduceBEq, Int.reduceEq, Int.reduceToNat]
    refine ⟨.inl (by omega), ?_⟩
    refine GCall.of (SF.any (M := (⟨Try.prog, true⟩ : MP)) (all_ok (S := S) (L := L) (bp := bp) ?_ (fun b => Or.inr (hR b)))) ?_
    · refine hp.old fun b hb => ?_
      simp -implicitDefEqProofs (disch := (first | omega | (simp -implicitDefEqProofs only [szs, ne_eq] <;> omega) | fail)) only [go_sem, Nat.reduceAdd, Nat.reduceSub, Nat.reduceMul, Nat.reduceLT, Nat.reduceMod, Nat.reduceDiv, Nat.reduceEqDiff, Nat.reduceBEq, Nat.reduceLeDiff, ↓reduceIte, reduceCtorEq, Int.reduceAdd, Int.reduceSub, Int.reduceLT, Int.reduceLE, Int.reduceBEq, Int.reduceEq, Int.reduceToNat]
    rintro v ha ⟨rfl, hn, hG, hold⟩
    simp only [Heap.n_push, Heap.n_set] at hn hG hold ⊢
    simp -implicitDefEqProofs (disch := (first | omega | (simp -implicitDefEqProofs only [szs, ne_eq] <;> omega) | fail)) only [go_sem, Nat.reduceAdd, Nat.reduceSub, Nat.reduceMul, Nat.reduceLT, Nat.reduceMod, Nat.reduceDiv, Nat.reduceEqDiff, Nat.reduceBEq, Nat.reduceLeDiff, ↓reduceIte, reduceCtorEq, Int.reduceAdd, Int.reduceSub, Int.reduceLT, Int.reduceLE, Int.reduceBEq, Int.reduceEq, Int.reduceToNat]
    have kold : ∀ b, b < h.n → ha.get b = h.get b := fun b hb => by
      rw [hold b (by omega)]; simp -implicitDefEqProofs (disch := (first | omega | (simp -implicitDefEqProofs only [szs, ne_eq] <;> omega) | fail)) only [go_sem, Nat.reduceAdd, Nat.reduceSub, Nat.reduceMul, Nat.reduceLT, Nat.reduceMod, Nat.reduceDiv, Nat.reduceEqDiff, Nat.reduceBEq, Nat.reduceLeDiff, ↓reduceIte, reduceCtorEq, Int.reduceAdd, Int.reduceSub, Int.reduceLT, Int.reduceLE, Int.reduceBEq, Int.reduceEq, Int.reduceToNat]
    refine dropx_tail (h := h) (S := S) (L := L) (bp := bp) (k := (a : Int)) w.n ⟨by omega, rfl, rfl, rfl, ?_, ?_, hbp, hfb, hub, hqb⟩ (fun b => .inr (hR b)) (fun b hb => .inl hb) (.inr hWf) (.inr hWu) rfl hG ?_ ?_
    · rw [hold _ (by omega)]; simp -implicitDefEqProofs (disch := (first | omega | (simp -implicitDefEqProofs only [szs, ne_eq] <;> omega) | fail)) only [go_sem, Nat.reduceAdd, Nat.reduceSub, Nat.reduceMul, Nat.reduceLT, Nat.reduceMod, Nat.reduceDiv, Nat.reduceEqDiff, Nat.reduceBEq, Nat.reduceLeDiff, ↓reduceIte, reduceCtorEq, Int.reduceAdd, Int.reduceSub, Int.reduceLT, Int.reduceLE, Int.reduceBEq, Int.reduceEq, Int.reduceToNat]
    · rw [hold _ (by omega)]; simp -implicitDefEqProofs (disch := (first | omega | (simp -implicitDefEqProofs only [szs, ne_eq] <;> omega) | fail)) only [go_sem, Nat.reduceAdd, Nat.reduceSub, Nat.reduceMul, Nat.reduceLT, Nat.reduceMod, Nat.reduceDiv, Nat.reduceEqDiff, Nat.reduceBEq, Nat.reduceLeDiff, ↓reduceIte, reduceCtorEq, Int.reduceAdd, Int.reduceSub, Int.reduceLT, Int.reduceLE, Int.reduceBEq, Int.reduceEq, Int.reduceToNat]
    · refine ⟨by simp, by simp -implicitDefEqProofs (disch := (first | omega | (simp -implicitDefEqProofs only [szs, ne_eq] <;> omega) | fail)) only [go_sem, Nat.reduceAdd, Nat.reduceSub, Nat.reduceMul, Nat.reduceLT, Nat.reduceMod, Nat.reduceDiv, Nat.reduceEqDiff, Nat.reduceBEq, Nat.reduceLeDiff, ↓reduceIte, reduceCtorEq, Int.reduceAdd, Int.reduceSub, Int.reduceLT, Int.reduceLE, Int.reduceBEq, Int.reduceEq, Int.reduceToNat], by simp -implicitDefEqProofs (disch := (first | omega | (simp -implicitDefEqProofs only [szs, ne_eq] <;> omega) | fail)) only [go_sem, Nat.reduceAdd, Nat.reduceSub, Nat.reduceMul, Nat.reduceLT, Nat.reduceMod, Nat.reduceDiv, Nat.reduceEqDiff, Nat.reduceBEq, Nat.reduceLeDiff, ↓reduceIte, reduceCtorEq, Int.reduceAdd, Int.reduceSub, Int.reduceLT, Int.reduceLE, Int.reduceBEq, Int.reduceEq, Int.reduceToNat], fun b hb hb2 hb3 => by simp -implicitDefEqProofs (disch := (first | omega | (simp -implicitDefEqProofs only [szs, ne_eq] <;> omega) | fail)) only [go_sem, Nat.reduceAdd, Nat.reduceSub, Nat.reduceMul, Nat.reduceLT, Nat.reduceMod, Nat.reduceDiv, Nat.reduceEqDiff, Nat.reduceBEq, Nat.reduceLeDiff, ↓reduceIte, reduceCtorEq, Int.reduceAdd, Int.reduceSub, Int.reduceLT, Int.reduceLE, Int.reduceBEq, Int.reduceEq, Int.reduceToNat], ⟨(Blk.of [V.int IntKind.i64 0]).set 0 (V.int IntKind.i64 0), ?_, rfl, rfl, by rw [w_bset_eq rfl]; rfl⟩, S, hp.old (fun b hb => ?_), w, rfl, rfl, rfl, rfl, rfl, fun x => by simp⟩
      · have := hold (h.n + 2) (by omega)
        simp -implicitDefEqProofs (disch := (first | omega | (simp -implicitDefEqProofs only [szs, ne_eq] <;> omega) | fail)) only [go_sem, Nat.reduceAdd, Nat.reduceSub, Nat.reduceMul, Nat.reduceLT, Nat.reduceMod, Nat.reduceDiv, Nat.reduceEqDiff, Nat.reduceBEq, Nat.reduceLeDiff, ↓reduceIte, reduceCtorEq, Int.reduceAdd, Int.reduceSub, Int.reduceLT, Int.reduceLE, Int.reduceBEq, Int.reduceEq, Int.reduceToNat, this]
      · have := kold b hb
        simp -implicitDefEqProofs (disch := (first | omega | (simp -implicitDefEqProofs only [szs, ne_eq] <;> omega) | fail)) only [go_sem, Nat.reduceAdd, Nat.reduceSub, Nat.reduceMul, Nat.reduceLT, Nat.reduceMod, Nat.reduceDiv, Nat.reduceEqDiff, Nat.reduceBEq, Nat.reduceLeDiff, ↓reduceIte, reduceCtorEq, Int.reduceAdd, Int.reduceSub, Int.reduceLT, Int.reduceLE, Int.reduceBEq, Int.reduceEq, Int.reduceToNat, this]
    · intro g d
      obtain ⟨c, gc, cs, cro, cc0⟩ := d.cnt
      rw [List.take_of_length_le (Nat.le_refl _), heldI_cnt, ← w.us a haa] at cc0
      obtain ⟨S', hp', hw', en, ena, equ, eow, eby, eho⟩ := d.pool
      have hdn := d.n
      have hmk := d.mark
      simp -implicitDefEqProofs (disch := (first | omega | (simp -implicitDefEqProofs only [szs, ne_eq] <;> omega) | fail)) only [go_sem, Nat.reduceAdd, Nat.reduceSub, Nat.reduceMul, Nat.reduceLT, Nat.reduceMod, Nat.reduceDiv, Nat.reduceEqDiff, Nat.reduceBEq, Nat.reduceLeDiff, ↓reduceIte, reduceCtorEq, Int.reduceAdd, Int.reduceSub, Int.reduceLT, Int.reduceLE, Int.reduceBEq, Int.reduceEq, Int.reduceToNat, gc, cc0, hmk]
      refine ⟨.inl (by omega), .inl (by omega), ?_⟩
      have hwd := w.drops haa
      have hoe : ∀ i, i < S.n → (S.drops a).ho i = S'.ho i := fun i hi => by
        rw [eho i, List.take_of_length_le (Nat.le_refl _)]
        show (if i < S.n ∧ S.ow i = (a : Nat) then (0 : Int) else S.ho i) = _
        by_cases e : S.ow i = (a : Nat)
        · by_cases e0 : S.ho i = 0
          · rw [e0, if_pos ⟨hi, e⟩]; split <;> rfl
          · rw [if_pos ⟨hi, e⟩, if_pos ⟨heldI_mem S S.n i hi e0, e⟩]
        · rw [if_neg (fun h => e h.2), if_neg (fun h => e h.2)]
      refine (hp'.set2 _ _ (by omega) (by omega) (by omega) (by omega) (by omega) (by omega) (by omega) (by omega) (by omega) (by omega)).congr en.symm ena.symm (fun i _ => by rw [eow]; rfl) (fun i hi => hoe i (by rw [en] at hi; exact hi)) (fun i _ => by rw [equ]; rfl) (fun i j _ _ => by rw [eby]; rfl) (fun b hb => ?_)
      rw [hw'.us b hb, hwd.us b (by rw [ena] at hb; exact hb)]
      show cnt _ S.n = cnt _ S'.n
      rw [en]
      refine cnt_congr fun i hi => ?_
      rw [hoe i hi, eow]; rfl
end Go.Proofs.Ytfgdpgagcnelpaa
