/- Copy. -/
import Derived.Test.YtgkcbpagdfdpdaaR7
set_option linter.unusedVariables false
set_option linter.unusedSimpArgs false
set_option linter.unusedSimpArgs false
set_option maxRecDepth 100000
set_option linter.unusedVariables false
set_option linter.unusedSimpArgs false
namespace Go.Proofs.Ytgkcbpagdfdpdaa
open Go Go.Vm
attribute [-go_sem] sz_67
/-- Which sectors' writes are copied. -/
def cpT (l : Ents) (x : Nat) : Bool := l.any fun e => decide (keyI e.1 = (x : Int))
def cpD (D : DS) (l : Ents) : DS := { D with pe := fun x => if cpT l x then D.pe x else [] }
theorem cpT_snoc (l : Ents) (e : V × V × Nat) (x : Nat) : cpT (l ++ [e]) x = (cpT l x || decide (keyI e.1 = (x : Int))) := by
  simp [cpT]
/-- A disk of which one sector's writes are laid in. -/
theorem DiskAt.fill {h h' : Heap} {bd : Nat} {L : DL} {D : DS} {s nb : Nat} {ll : List (List V)} (hd : DiskAt h bd L D) (hs : s < D.n) (h0 : ll ≠ []) (hl : ∀ l ∈ ll, IsSec l) (few : ll.length ≤ 1000000000) (hn : h.n ≤ nb)
    (hk : ∀ b, b < h.n → b ≠ L.mb → h'.get b = h.get b)
    (km : ∃ es ck es' ck', h.get L.mb = some (.map es ck) ∧ h'.get L.mb = some (.map es' ck') ∧ IMap es' ck' ∧ ∀ x, getI es' x = if x = s then some (.slice (some (nb, 0)) ll.length ll.length false) else getI es x)
    (kb : h'.get nb = some (.cells (Blk.of ll.flatten) 67)) : DiskAt h' bd (L.write s nb) { D with pe := fun x => if x = s then ll else D.pe x } := by
  obtain ⟨hp, ⟨c, d1, d2⟩, ⟨f, f1, f2⟩, ⟨es, ck, m1, m2, m3⟩, h1, h2, h3, h4⟩ := hd
  obtain ⟨es0, ck0, es', ck', e0, e1, e2, e3⟩ := km
  rw [m1] at e0
  obtain ⟨rfl, rfl⟩ : es = es0 ∧ ck = ck0 := by simpa using e0
  have ld := Heap.lt_of_get d1
  have lf := Heap.lt_of_get f1
  have lm := Heap.lt_of_get m1
  have n1 : bd ≠ L.mb := fun e => by rw [e, m1] at d1; cases d1
  have n2 : L.fb ≠ L.mb := fun e => by rw [e, m1] at f1; cases f1
  have nbd : nb ≠ bd := by omega
  refine ⟨hp, ⟨c, by rw [hk _ ld n1]; exact d1, d2⟩, ⟨f, by rw [show (L.write s nb).fb = L.fb from rfl, hk _ lf n2]; exact f1, f2⟩, ⟨es', ck', e1, e2, ⟨fun x => ?_, fun x hx => ?_, fun x hx => ?_, fun x y hx hy hxy => ?_⟩⟩, h1, fun x l hxl => ?_, fun x hx => ?_, fun x => ?_⟩
  · rw [e3]
    simp only [DL.write]
    by_cases hx : x = s
    · subst hx
      simp [h0]
    · rw [if_neg (by omega), m3.has]
      simp only [if_neg hx]
  · rw [e3, if_neg (by omega)]
    exact m3.neg x hx
  · simp only [DL.write] at hx ⊢
    by_cases hxs : x = s
    · subst hxs
      rw [if_pos rfl, if_pos rfl]
      exact ⟨kb, by omega, by omega, by omega⟩
    · rw [if_neg hxs] at hx
      rw [if_neg hxs, if_neg hxs]
      obtain ⟨q1, q2, q3, q4⟩ := m3.blk x hx
      exact ⟨by rw [hk _ (Heap.lt_of_get q1) q4]; exact q1, q2, q3, q4⟩
  · simp only [DL.write] at hx hy ⊢
    by_cases hxs : x = s
    · rw [if_pos hxs, if_neg (by omega)]
      rw [if_neg (by omega)] at hy
      have := Heap.lt_of_get (m3.blk y hy).1
      omega
    · rw [if_neg hxs] at hx ⊢
      by_cases hys : y = s
      · rw [if_pos hys]
        have := Heap.lt_of_get (m3.blk x hx).1
        omega
      · rw [if_neg hys] at hy ⊢
        exact m3.inj x y hx hy hxy
  · simp only [] at hxl
    split at hxl
    · exact hl l hxl
    · exact h2 x l hxl
  · have hx : D.n ≤ x := hx
    simp only []
    rw [if_neg (by omega)]; exact h3 x hx
  · simp only []
    split
    · exact few
    · exact h4 x
structure CpAt (n0 : Nat) (h0 : Heap) (tr : Tr V) (D : DS) (l : Ents) (g : Heap) : Prop where
  n : n0 + 8 ≤ g.n
  old : ∀ x, x < n0 → g.get x = h0.get x
  box : ∃ c, g.get (n0 + 4) = some (.cells c 26) ∧ c.size = 1 ∧ c.get 0 = .ptr (some (n0 + 3, 0))
  mark : g.get (n0 + 6) = some (.deferred true)
  loop : g.get (n0 + 7) = some (.loop ⟨.ready, none, ⟨36, tr⟩, [26, 27], (rc41 0).1, (rc41 0).2, n0 + 6⟩)
  disk : ∃ L', DiskAt g (n0 + 3) L' (cpD D l) ∧ L'.fb = n0 + 1 ∧ L'.mb = n0 + 2 ∧ ∀ x, (cpD D l).pe x ≠ [] → n0 + 9 ≤ L'.pb x ∧ L'.pb x < g.n
theorem CpAt.keep {n0 : Nat} {h0 g g' : Heap} {tr : Tr V} {D : DS} {l : Ents} (hc : CpAt n0 h0 tr D l g) (hn : g.n ≤ g'.n) (hk : ∀ b, b < g.n → b ≠ n0 + 8 → g'.get b = g.get b) : CpAt n0 h0 tr D l g' := by
  have n := hc.n
  obtain ⟨c, b1, b2⟩ := hc.box
  obtain ⟨L', d1, d2, d3, d4⟩ := hc.disk
  refine ⟨by omega, fun x hx => by rw [hk _ (by omega) (by omega)]; exact hc.old x hx, ⟨c, by rw [hk _ (by omega) (by omega)]; exact b1, b2⟩, by rw [hk _ (by omega) (by omega)]; exact hc.mark, by rw [hk _ (by omega) (by omega)]; exact hc.loop, L', d1.same fun b hb hlt => hk b hlt ?_, d2, d3, fun x hx => ⟨(d4 x hx).1, by have := (d4 x hx).2; omega⟩⟩
  rcases hb with rfl | rfl | rfl | ⟨x, hx, rfl⟩
  · omega
  · omega
  · omega
  · have := d4 x hx; omega
set_option maxHeartbeats 1000000 in
theorem cp_round {n0 : Nat} {h0 g : Heap} {R W : Set'} {tr : Tr V} {bd : Nat} {L : DL} {D : DS} {l : Ents} {e : V × V × Nat} {x : Nat} (hn0 : h0.n = n0) (hd : DiskAt h0 bd L D) (hc : CpAt n0 h0 tr D l g) (t3 : tr.get 3 = some (.ptr (some (n0 + 4, 0)))) (hn : n0 + 9 ≤ g.n) (he : e.1 = .int .i64 x) (hx : D.pe x ≠ []) (hnx : cpT l x = false) (hR : ∀ b, R b) (hW : ∀ b, n0 ≤ b → W b) :
    SY ⟨Try.prog, true⟩ (n0 + 7) [.int .i64 x, .slice (some (L.pb x, 0)) (D.pe x).length (D.pe x).length false] g R W fun v g' => v = .bool true ∧ CpAt n0 h0 tr D (l ++ [e]) g' ∧ g'.get (n0 + 8) = g.get (n0 + 8) ∧ g.n ≤ g'.n := by
  refine SY.go hm hc.loop (hR _) (hW _ (by omega)) rfl ir41_a0_eq ir41_b0_eq ?_
  have hxn : x < D.n := Nat.lt_of_not_le fun h => hx (hd.out x h)
  obtain ⟨es, ck, m1, m2, m3⟩ := hd.m
  obtain ⟨u1, u2, u3, u4⟩ := m3.blk x hx
  have lu := Heap.lt_of_get u1
  have few := hd.few x
  have hp0 := List.length_pos_iff.2 hx
  have hfl := flat_len (hd.pe x)
  simp -implicitDefEqProofs (disch := (first | omega | (simp -implicitDefEqProofs only [szs, ne_eq] <;> omega) | fail)) only [go_sem, Nat.reduceAdd, Nat.reduceSub, Nat.reduceMul, Nat.reduceLT, Nat.reduceMod, Nat.reduceDiv, Nat.reduceEqDiff, Nat.reduceBEq, Nat.reduceLeDiff, ↓reduceIte, reduceCtorEq, Int.reduceAdd, Int.reduceSub, Int.reduceLT, Int.reduceLE, Int.reduceBEq, Int.reduceEq, Int.reduceToNat, ir41_a0, Tm.n_set]
  refine ⟨_, hc.loop, rfl, ?_⟩
  obtain ⟨c, b1, b2, b3⟩ := hc.box
  obtain ⟨g1, eg⟩ : ∃ g1, g1 = g.set (n0 + 7) (O.loop ⟨.busy, none, ⟨36, tr⟩, [26, 27], (rc41 0).1, (rc41 0).2, n0 + 6⟩) := ⟨_, rfl⟩
  have n1 : g1.n = g.n := by rw [eg]; rfl
  have k1 : ∀ b, b ≠ n0 + 7 → g1.get b = g.get b := fun b hb => by rw [eg]; exact w_set_ne (by omega) hb _
  obtain ⟨L', d1, d2, d3, d4⟩ := hc.disk
  have d1' : DiskAt g1 (n0 + 3) L' (cpD D l) := d1.same fun b hb _ => k1 b (by
    rcases hb with rfl | rfl | rfl | ⟨y, hy, rfl⟩
    · omega
    · omega
    · omega
    · have := d4 y hy; omega)
  have hl7 : g1.get (n0 + 7) = some (O.loop ⟨.busy, none, ⟨36, tr⟩, [26, 27], (rc41 0).1, (rc41 0).2, n0 + 6⟩) := by rw [eg]; exact w_set_eq (by omega) rfl _
  have b1' : g1.get (n0 + 4) = some (.cells c 26) := by rw [k1 _ (by omega)]; exact b1
  have u1' : g1.get (L.pb x) = some (.cells (Blk.of (D.pe x).flatten) 67) := by rw [k1 _ (by omega), hc.old _ (by omega)]; exact u1
  rw [← eg]
  obtain ⟨cd, e1, e2, e3, e4, e5, e6⟩ := d1'.d
  obtain ⟨es', ck', f1, f2, f3⟩ := d1'.m
  rw [d3] at e5 f1
  have hR4 := hR (n0 + 4)
  have hR3 := hR (n0 + 3)
  simp -implicitDefEqProofs (disch := (first | omega | (simp -implicitDefEqProofs only [szs, ne_eq] <;> omega) | fail)) only [go_sem, Nat.reduceAdd, Nat.reduceSub, Nat.reduceMul, Nat.reduceLT, Nat.reduceMod, Nat.reduceDiv, Nat.reduceEqDiff, Nat.reduceBEq, Nat.reduceLeDiff, ↓reduceIte, reduceCtorEq, Int.reduceAdd, Int.reduceSub, Int.reduceLT, Int.reduceLE, Int.reduceBEq, Int.reduceEq, Int.reduceToNat, ir41_b0, t3, b1', b2, b3, e1, e2, e5, hR4, hR3]
  refine GCallD.of (R' := fun b => b = L.pb x) (W' := fun _ => False) (clone_ok (R := fun b => b = L.pb x) (W := fun _ => False) u1' (by rw [w_of_size, hfl]; omega) hp0 few rfl) ?_
  rintro w g2 ⟨rfl, eg2⟩
  have hgs : (Blk.of (D.pe x).flatten).gets 0 ((D.pe x).length * 128) = (D.pe x).flatten := gets_all _ hfl.symm
  rw [hgs] at eg2
  have n2 : g2.n = g1.n + 2 := by rw [eg2]; simp
  have k2 : ∀ b, b < g1.n → g2.get b = g1.get b := fun b hb => by rw [eg2, w_push_ne (by simp; omega), w_push_ne (by omega)]
  have c2 : g2.get (g1.n + 1) = some (.cells (Blk.of (D.pe x).flatten) 67) := by rw [eg2]; exact w_push_eq rfl _
  obtain ⟨es2, ck2, hu, v1, v2, v3⟩ := upd_int (P := Try.prog) (t := 52) Try.underlying52 Try.underlying3 (h := g2) (r := n0 + 2) (es := es') (ck := ck') (by rw [k2 _ (by omega)]; exact f1) f2 x (.slice (some (g1.n + 1, 0)) (D.pe x).length (D.pe x).length false)
  have hW2 := hW (n0 + 2) (by omega)
  have hR2 := hR (n0 + 2)
  simp -implicitDefEqProofs (disch := (first | omega | (simp -implicitDefEqProofs only [szs, ne_eq] <;> omega) | fail)) only [go_sem, Nat.reduceAdd, Nat.reduceSub, Nat.reduceMul, Nat.reduceLT, Nat.reduceMod, Nat.reduceDiv, Nat.reduceEqDiff, Nat.reduceBEq, Nat.reduceLeDiff, ↓reduceIte, reduceCtorEq, Int.reduceAdd, Int.reduceSub, Int.reduceLT, Int.reduceLE, Int.reduceBEq, Int.reduceEq, Int.reduceToNat, hu, hW2, hR2]
  have hkey : keyI e.1 = (x : Int) := by rw [he]; rfl
  have hcpD : { (cpD D l) with pe := fun y => if y = x then D.pe x else (cpD D l).pe y } = cpD D (l ++ [e]) := by
    show DS.mk D.n D.fl (fun y => if y = x then D.pe x else if cpT l y = true then D.pe y else []) D.wr = DS.mk D.n D.fl (fun y => if cpT (l ++ [e]) y = true then D.pe y else []) D.wr
    congr 1
    funext y
    simp only [cpT_snoc, hkey]
    by_cases hy : y = x
    · subst hy; simp
    · have : ¬ (x : Int) = y := by omega
      simp [hy, this]
  have hnew := d1'.fill (h' := g2.set (n0 + 2) (O.map es2 ck2)) (s := x) (nb := g1.n + 1) (ll := D.pe x) hxn hx (hd.pe x) few (by omega) (fun b h1 h2 => by rw [d3] at h2; rw [w_set_ne (by omega) h2]; exact k2 b h1) ⟨es', ck', es2, ck2, by rw [d3]; exact f1, by rw [d3]; exact w_set_eq (by omega) rfl _, v1, v2⟩ (by rw [w_set_ne (by omega) (by omega)]; exact c2)
  rw [hcpD] at hnew
  have kf : ∀ b, b ≠ n0 + 2 → b ≠ n0 + 7 → ((g2.set (n0 + 2) (O.map es2 ck2)).set (n0 + 7) (O.loop ⟨.ready, none, ⟨36, tr⟩, [26, 27], (rc41 0).1, (rc41 0).2, n0 + 6⟩)).get b = g2.get b := fun b h1 h2 => by
    rw [w_set_ne (by rw [Heap.n_set]; omega) h2, w_set_ne (by omega) h1]
  have k02 : ∀ b, b < g.n → b ≠ n0 + 7 → g2.get b = g.get b := fun b h1 h2 => by rw [k2 b (by omega), k1 b h2]
  have hft : ∀ b, Foot (n0 + 3) (L'.write x (g1.n + 1)) (cpD D (l ++ [e])) b → b ≠ n0 + 7 := fun b hb => by
    rcases hb with rfl | h | h | ⟨y, hy, rfl⟩
    · omega
    · have h : b = L'.fb := h
      omega
    · have h : b = L'.mb := h
      omega
    · simp only [DL.write]
      split
      · omega
      · rename_i hyx
        have := d4 y (by rw [← hcpD] at hy; simpa [hyx] using hy)
        omega
  have l7 : n0 + 7 < (g2.set (n0 + 2) (O.map es2 ck2)).n := by rw [Heap.n_set]; omega
  have hnew2 := hnew.same (h' := (g2.set (n0 + 2) (O.map es2 ck2)).set (n0 + 7) (O.loop ⟨.ready, none, ⟨36, tr⟩, [26, 27], (rc41 0).1, (rc41 0).2, n0 + 6⟩)) fun b hb _ => w_set_ne l7 (hft b hb) _
  have hfin : CpAt n0 h0 tr D (l ++ [e]) ((g2.set (n0 + 2) (O.map es2 ck2)).set (n0 + 7) (O.loop ⟨.ready, none, ⟨36, tr⟩, [26, 27], (rc41 0).1, (rc41 0).2, n0 + 6⟩)) := by
    refine ⟨by rw [Heap.n_set, Heap.n_set]; omega, fun y hy => ?_, ⟨c, ?_, b2, b3⟩, ?_, w_set_eq l7 rfl _, L'.write x (g1.n + 1), hnew2, d2, d3, fun y hy => ?_⟩
    · rw [kf y (by omega) (by omega), k02 y (by have := hc.n; omega) (by omega)]; exact hc.old y hy
    · rw [kf _ (by omega) (by omega), k02 _ (by omega) (by omega)]; exact b1
    · rw [kf _ (by omega) (by omega), k02 _ (by omega) (by omega)]; exact hc.mark
    · simp only [DL.write]
      rw [Heap.n_set, Heap.n_set]
      split
      · omega
      · rename_i hyx
        have := d4 y (by rw [← hcpD] at hy; simpa [hyx] using hy)
        omega
  refine ⟨by (try simp only [List.not_mem_nil, or_false, false_or, and_false, false_and, false_implies, implies_true, not_false_eq_true, List.mem_singleton, List.mem_cons, and_true, true_and, forall_const]; try and_intros; all_goals (try trivial); all_goals (intro b hb; first | omega | (intro hc; first | omega | (rcases hb with hb | hb <;> first | omega)))), ?_, ⟨.busy, none, ⟨36, tr⟩, [26, 27], (rc41 0).1, (rc41 0).2, n0 + 6⟩, by rw [k2 _ (by omega)]; exact hl7, rfl, hfin, by rw [k02 _ (by omega) (by omega)], by omega⟩
  and_intros
  all_goals (intros; first | exact hR _ | exact (by assumption : False).elim)
theorem all_ok {h : Heap} {R W : Set'} {m : Nat} : SF Try.prog 50 [.map (some m)] h R W fun v h' => v = .func 55 [] [.ptr (some (h.n, 0))] ∧ h' = h.push (.cells (Blk.of [.map (some m)]) 52) := by
  refine SF.go hm Try.func50 ir50_eq ?_
  simp -implicitDefEqProofs (disch := (first | omega | (simp -implicitDefEqProofs only [szs, ne_eq] <;> omega) | fail)) only [go_sem, Nat.reduceAdd, Nat.reduceSub, Nat.reduceMul, Nat.reduceLT, Nat.reduceMod, Nat.reduceDiv, Nat.reduceEqDiff, Nat.reduceBEq, Nat.reduceLeDiff, ↓reduceIte, reduceCtorEq, Int.reduceAdd, Int.reduceSub, Int.reduceLT, Int.reduceLE, Int.reduceBEq, Int.reduceEq, Int.reduceToNat, ir50]
def ir55_rest : LC := match ir55_l0 with
  | .seq _ r => r
  | _ => .skip
theorem ir55_l0_eq : ir55_l0 = .seq (.ops [⟨some 7, Op.next (Operand.tmp 6) false, none⟩, ⟨some 8, Op.extract (Operand.tmp 7) 0, none⟩]) ir55_rest := rfl
set_option maxHeartbeats 1000000 in
theorem cp_dem {n0 kb : Nat} {h0 h1 : Heap} {tr : Tr V} {bd : Nat} {L : DL} {D : DS} {R W : Set'} (hn0 : h0.n = n0) (hd : DiskAt h0 bd L D) (hc : CpAt n0 h0 tr D [] h1) (hn1 : h1.n = n0 + 8) (t3 : tr.get 3 = some (.ptr (some (n0 + 4, 0)))) (hkb : kb = n0 + 5) (hk : ∃ c, h1.get kb = some (.cells c 52) ∧ c.size = 1 ∧ c.get 0 = .map (some L.mb)) (hR : ∀ b, R b) (hW : ∀ b, n0 ≤ b → W b) :
    SF ⟨Try.prog, true⟩ 55 [.yield (n0 + 7), .ptr (some (kb, 0))] h1 R W fun _ g => ∃ l, CpAt n0 h0 tr D l g ∧ ∀ x, (cpD D l).pe x = D.pe x := by
  obtain ⟨c, g1, g2, g3⟩ := hk
  obtain ⟨es, ck, m1, m2, m3⟩ := hd.m
  have lm := Heap.lt_of_get m1
  have gm' : h1.get L.mb = some (.map es ck) := by rw [hc.old _ (by omega)]; exact m1
  have hRk := hR kb
  have hRm := hR L.mb
  have hR8 := hR (n0 + 8)
  have hW8 := hW (n0 + 8) (by omega)
  refine SF.go hm Try.func55 ir55_eq ?_
  simp -implicitDefEqProofs (disch := (first | omega | (simp -implicitDefEqProofs only [szs, ne_eq] <;> omega) | fail)) only [go_sem, Nat.reduceAdd, Nat.reduceSub, Nat.reduceMul, Nat.reduceLT, Nat.reduceMod, Nat.reduceDiv, Nat.reduceEqDiff, Nat.reduceBEq, Nat.reduceLeDiff, ↓reduceIte, reduceCtorEq, Int.reduceAdd, Int.reduceSub, Int.reduceLT, Int.reduceLE, Int.reduceBEq, Int.reduceEq, Int.reduceToNat, ir55, g1, g2, g3, rangeV, gm', hRk, hRm, hn1]
  refine GLoop.inv hm (fun k f g => f.mks = [] ∧ f.tm.n = 17 ∧ f.tm.get 0 = some (.yield (n0 + 7)) ∧ f.tm.get 6 = some (.ptr (some (n0 + 8, 0))) ∧ n0 + 9 ≤ g.n ∧
    ∃ l seen, Seen es seen l ∧ l.length + k = es.length ∧ g.get (n0 + 8) = some (.iter (some L.mb) ck seen ck) ∧ CpAt n0 h0 tr D l g) es.length ?_ ?_
  · refine ⟨rfl, rfl, by simp -implicitDefEqProofs (disch := (first | omega | (simp -implicitDefEqProofs only [szs, ne_eq] <;> omega) | fail)) only [go_sem, Nat.reduceAdd, Nat.reduceSub, Nat.reduceMul, Nat.reduceLT, Nat.reduceMod, Nat.reduceDiv, Nat.reduceEqDiff, Nat.reduceBEq, Nat.reduceLeDiff, ↓reduceIte, reduceCtorEq, Int.reduceAdd, Int.reduceSub, Int.reduceLT, Int.reduceLE, Int.reduceBEq, Int.reduceEq, Int.reduceToNat], by simp -implicitDefEqProofs (disch := (first | omega | (simp -implicitDefEqProofs only [szs, ne_eq] <;> omega) | fail)) only [go_sem, Nat.reduceAdd, Nat.reduceSub, Nat.reduceMul, Nat.reduceLT, Nat.reduceMod, Nat.reduceDiv, Nat.reduceEqDiff, Nat.reduceBEq, Nat.reduceLeDiff, ↓reduceIte, reduceCtorEq, Int.reduceAdd, Int.reduceSub, Int.reduceLT, Int.reduceLE, Int.reduceBEq, Int.reduceEq, Int.reduceToNat], by simp; omega, [], [], Seen.nil es, by simp, ?_, hc.keep (by simp) fun b hb _ => w_push_ne (by omega) _⟩
    rw [w_push_eq (by omega)]
  rintro k ⟨⟨m, tr'⟩, mks⟩ g ⟨hmk, hn, t0, t6, hgn, l, seen, hs, hlk, hit, hcg⟩
  simp only [Tm.get_mk] at hmk hn t0 t6
  subst hmk hn
  have hgr : g.get L.mb = some (.map es ck) := by rw [hcg.old _ (by omega)]; exact m1
  simp -implicitDefEqProofs (disch := (first | omega | (simp -implicitDefEqProofs only [szs, ne_eq] <;> omega) | fail)) only [go_sem, Nat.reduceAdd, Nat.reduceSub, Nat.reduceMul, Nat.reduceLT, Nat.reduceMod, Nat.reduceDiv, Nat.reduceEqDiff, Nat.reduceBEq, Nat.reduceLeDiff, ↓reduceIte, reduceCtorEq, Int.reduceAdd, Int.reduceSub, Int.reduceLT, Int.reduceLE, Int.reduceBEq, Int.reduceEq, Int.reduceToNat, ir55_l0_eq, t6, SNext, hit, hgr, hRm, hR8, hW8]
  refine ⟨?_, ?_, ?_⟩
  · cases es with
    | nil => exact .inr (.inl rfl)
    | cons e es => exact .inr (.inr ⟨e, by simp, m2.ok.lt e (by simp)⟩)
  · intro hall
    have hp := hs.last m2.ok fun e he => hall e he (m2.ok.lt e he)
    simp -implicitDefEqProofs (disch := (first | omega | (simp -implicitDefEqProofs only [szs, ne_eq] <;> omega) | fail)) only [go_sem, Nat.reduceAdd, Nat.reduceSub, Nat.reduceMul, Nat.reduceLT, Nat.reduceMod, Nat.reduceDiv, Nat.reduceEqDiff, Nat.reduceBEq, Nat.reduceLeDiff, ↓reduceIte, reduceCtorEq, Int.reduceAdd, Int.reduceSub, Int.reduceLT, Int.reduceLE, Int.reduceBEq, Int.reduceEq, Int.reduceToNat, ir55_rest, ir55_l0]
    refine ⟨l, hcg, fun x => ?_⟩
    simp only [cpD]
    split
    · rfl
    · rename_i hx
      by_cases hpx : D.pe x = []
      · exact hpx.symm
      · obtain ⟨e, he, hk⟩ := List.mem_map.1 ((m3.key m2 x).2 hpx)
        exact absurd (List.any_eq_true.2 ⟨e, hp.mem_iff.2 he, decide_eq_true hk⟩) hx
  · intro e he hns
    have hs' := hs.step he hns
    have hle := hs'.length
    rw [List.length_append, List.length_singleton] at hle
    have hE := entry_at (g := g.set (n0 + 8) (.iter (some L.mb) ck (seen ++ [e.2.2]) ck)) (b := n0 + 8) (w_set_eq (by omega) rfl _) (by rw [w_set_ne (by omega) (by omega)]; exact hgr) m2.ok he
    obtain ⟨x, e1, hx1, e2⟩ := m3.mem m2 he
    rw [e1, e2] at hE
    have hnx : cpT l x = false := by
      rw [Bool.eq_false_iff]
      intro ht
      obtain ⟨e', he', hk⟩ := List.any_eq_true.1 ht
      have hk : keyI e'.1 = (x : Int) := of_decide_eq_true hk
      have : e' = e := nodup_inj m2.keys (hs.sub e' he') he (by rw [hk, e1]; rfl)
      subst this
      exact hns (by rw [← hs.stamps]; exact List.mem_map.2 ⟨_, he', rfl⟩)
    simp -implicitDefEqProofs (disch := (first | omega | (simp -implicitDefEqProofs only [szs, ne_eq] <;> omega) | fail)) only [go_sem, Nat.reduceAdd, Nat.reduceSub, Nat.reduceMul, Nat.reduceLT, Nat.reduceMod, Nat.reduceDiv, Nat.reduceEqDiff, Nat.reduceBEq, Nat.reduceLeDiff, ↓reduceIte, reduceCtorEq, Int.reduceAdd, Int.reduceSub, Int.reduceLT, Int.reduceLE, Int.reduceBEq, Int.reduceEq, Int.reduceToNat, ir55_rest, ir55_l0, hE, t0, t6, hRm, hR8]
    refine GYield.of (cp_round hn0 hd (hcg.keep (by simp) fun b hb hne => w_set_ne (by omega) hne _) t3 (by simp; omega) e1 hx1 hnx (fun b => .inr (hR b)) (fun b hb => .inr (hW b hb))) ?_
    rintro v g' ⟨rfl, hc', hit', hn'⟩
    rw [w_set_eq (by omega) rfl] at hit'
    simp only [Heap.n_set] at hn'
    simp -implicitDefEqProofs (disch := (first | omega | (simp -implicitDefEqProofs only [szs, ne_eq] <;> omega) | fail)) only [go_sem, Nat.reduceAdd, Nat.reduceSub, Nat.reduceMul, Nat.reduceLT, Nat.reduceMod, Nat.reduceDiv, Nat.reduceEqDiff, Nat.reduceBEq, Nat.reduceLeDiff, ↓reduceIte, reduceCtorEq, Int.reduceAdd, Int.reduceSub, Int.reduceLT, Int.reduceLE, Int.reduceBEq, Int.reduceEq, Int.reduceToNat, t0, t6]
    exact ⟨k - 1, by omega, by omega, l ++ [e], _, hs', by simp; omega, hit', hc'⟩
end Go.Proofs.Ytgkcbpagdfdpdaa
