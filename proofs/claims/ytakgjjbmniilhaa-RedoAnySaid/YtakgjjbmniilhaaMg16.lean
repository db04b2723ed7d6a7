/- stands: a record looked at. -/
import Derived.Test.YtakgjjbmniilhaaMg9
import Derived.Test.YtakgjjbmniilhaaMg15
set_option linter.unusedVariables false
set_option maxRecDepth 100000
set_option linter.unusedVariables false
namespace Go.Proofs.Ytakgjjbmniilhaa
open Go Go.Vm
attribute [-go_sem] qQ
variable {h g : Heap} {R W M N : Set'} {rd rp fr ct : Nat} {D : DS} {G : LgS}
noncomputable def lvT (tr : Tr V) (m : Nat) : Loopv := ⟨.ready, none, ⟨139, tr⟩, [70, 71], (rc26 0).1, (rc26 0).2, m⟩
def TmK (tm : Tm) (tr : Tr V) : Prop := ∀ j, j ≠ 12 → j < 104 → tm.get j = tr.get j
def HpK (g g' : Heap) (n0 : Nat) : Prop := g'.n = g.n ∧ (∀ b, (b < n0 ∨ ∀ c, g.get b ≠ some (.cells c 5)) → g'.get b = g.get b) ∧ ∀ b c, g.get b = some (.cells c 5) → ∃ c', g'.get b = some (.cells c' 5) ∧ c'.size = c.size ∧ c'.ro = c.ro
set_option maxHeartbeats 4000000 in
theorem nine_loop {Q : Ex → Fr → Heap → Prop} {rdd : Option Nat} {t : List It} {n0 : Nat} {w : V} {l : List V} {tr : Tr V} (hR : ∀ b, R b) (hW : ∀ b, n0 ≤ b → W b) (ho : Own n0 g w l 5) (hll : l.length ≤ 1000000)
  (t11 : tr.get 11 = some w) (t12 : tr.get 12 = some (.int .i64 0))
  (hk : ∀ tr' g', (∀ j, j ≠ 12 → j < 104 → tr'.get j = tr.get j) → HpK g g' n0 → resume ⟨Try.prog, true⟩ R W rdd Q t (.exit 4) ⟨⟨139, tr'⟩, []⟩ g') :
  kE ⟨Try.prog, true⟩ R W rdd Q ir26_l0 t ⟨⟨139, tr⟩, []⟩ g := by
 have hlen := ho.lr.lenV Try.underlying22
 refine kE.inv hm (fun k f g' => f.mks = [] ∧ f.tm.n = 139 ∧ TmK f.tm tr ∧ HpK g g' n0 ∧ ∃ i : Nat, i + k = l.length ∧ f.tm.get 12 = some (.int .i64 (i : Int))) l.length ?_ ?_
 ·exact ⟨rfl, rfl, fun _ _ _ => rfl, ⟨rfl, fun _ _ => rfl, fun b c hb => ⟨c, hb, rfl, rfl⟩⟩, 0, by omega, t12⟩
 rintro k ⟨⟨n', tr'⟩, mks⟩ g' ⟨hmk, hn', ht, hh, i, hik, t12'⟩
 simp only [Tm.kL] at hmk hn' t12'
 subst hmk hn'
 have ht : ∀ j, j ≠ 12 → j < 104 → tr'.get j = tr.get j := ht
 have t11' := (ht 11 (by omega) (by omega)).trans t11
 by_cases hi : i < l.length
 rotate_left
 ·have hci : ¬ (i : Int) < (l.length : Int) := by omega
  simp -implicitDefEqProofs (disch := first | omega | (simp -implicitDefEqProofs only [szs, ne_eq] <;> omega) | fail) only [go_sem, seval, ↓reduceIte, ir26_l0, t11', t12', ↓hlen, hci]
  exact hk _ _ (fun j h1 h2 => by rw [Tr.get_put _ _ _ _ _ (by omega), if_neg (by omega), Tr.get_put _ _ _ _ _ (by omega), if_neg (by omega), Tr.get_put _ _ _ _ _ (by omega), if_neg (by omega), Tr.get_put _ _ _ _ _ (by omega), if_neg (by omega)]; exact ht j h1 h2) hh
 have hci : (i : Int) < (l.length : Int) := by omega
 have hci0 : (0 : Int) ≤ (i : Int) := by omega
 rcases ho with ⟨rfl, _⟩ | ⟨b, x, c, h0, rfl, hb0, hb, hs, hr, hg⟩
 ·exact absurd hi (by simp)
 obtain ⟨c', q1, q2, q3⟩ := hh.2.2 b c hb
 have q3' := q3.trans hr
 have hos : i < c'.size := by omega
 have hWb := hW b hb0
 have hlt := Heap.lt_of_get q1
 simp -implicitDefEqProofs (disch := first | omega | (simp -implicitDefEqProofs only [szs, ne_eq] <;> omega) | fail) only [go_sem, seval, ↓reduceIte, ir26_l0, qE, t11', t12', ↓hlen, hci, hci0, q1, q3', hWb]
 refine ⟨k - 1, by omega, fun j h1 h2 => ?_, ⟨?_, fun b' hb' => ?_, fun b' c2 hb' => ?_⟩, i + 1, by omega, by simp⟩
 ·rw [Tm.kL]
  iterate 10 rw [Tr.get_put _ _ _ _ _ (by omega), if_neg (by omega)]
  exact ht j h1 h2
 ·rw [Heap.n_set]; exact hh.1
 ·rw [qB hlt, hh.2.1 b' hb']
  rintro rfl
  rcases hb' with h | h
  ·omega
  ·exact h c hb
 ·by_cases e : b' = b
  ·subst e
   rw [hb] at hb'; cases hb'
   exact ⟨_, qF hlt rfl _, by rw [Blk.size_set]; exact q2, by rw [Blk.qY]; exact q3⟩
  ·obtain ⟨c3, r1, r2⟩ := hh.2.2 b' c2 hb'
   exact ⟨c3, (qB hlt e _).trans r1, r2⟩
theorem sb_self (a : ByteArray) : strBin .neq a a = some (.bool false) := by
 rw [sb_neq]; simp
set_option maxHeartbeats 8000000 in
theorem rnd26 {n0 m y b4 b5 b6 b8 b9 p tn : Nat} {leave : Int} {tr : Tr V} {w : V} {l : List V} (hy : g.get y = some (.loop (lvT tr m))) (hyn : y < n0) (h9n : b9 < n0)
  (t4 : tr.get 4 = some (.ptr (some (b4, 0)))) (t5 : tr.get 5 = some (.ptr (some (b5, 0)))) (t6 : tr.get 6 = some (.ptr (some (b6, 0)))) (t8 : tr.get 8 = some (.ptr (some (b8, 0)))) (t9 : tr.get 9 = some (.ptr (some (b9, 0))))
  (c4 : ∃ c, g.get b4 = some (.cells c 57) ∧ c.size = 1 ∧ c.get 0 = .ptr (some (rp, 0))) (c5 : ∃ c, g.get b5 = some (.cells c 3) ∧ c.size = 1 ∧ c.get 0 = .int .i64 leave)
  (c8 : ∃ c, g.get b8 = some (.cells c 3) ∧ c.size = 1 ∧ c.get 0 = .int .i64 (tn : Int)) (c9 : ∃ c, g.get b9 = some (.cells c 3) ∧ c.size = 1 ∧ c.ro = false ∧ c.get 0 = .int .i64 (p : Int)) (h89 : b8 ≠ b9 ∧ b5 ≠ b9)
  (hr : RgX g N rp rd fr ct G) (hNl : ∀ k, N k → k < n0 ∧ k ≠ y ∧ k ≠ b9) (hw : Own n0 g w l 5) (hl : G.rs[p]? = some l) (hby : Byt l) (hll : l.length ≤ 1000000) (hrl : G.rs.length ≤ 1000000) (hfi : G.H.fi ≤ 4611686018427387904) (hlo : b4 < n0 ∧ b5 < n0 ∧ b8 < n0 ∧ b4 ≠ y ∧ b5 ≠ y ∧ b8 ≠ y ∧ b9 ≠ y) :
  SY ⟨Try.prog, true⟩ y [.int .i64 ((G.H.fi + p : Nat) : Int), w] g (fun _ => True) (fun b => n0 ≤ b ∨ b = y ∨ b = b9) (fun z g' => g'.n = g.n ∧ (∀ b, b ≠ y → b ≠ b9 → (b < n0 ∨ ∀ c, g.get b ≠ some (.cells c 5)) → g'.get b = g.get b) ∧ (∃ c, g'.get b9 = some (.cells c 3) ∧ c.size = 1 ∧ c.ro = false ∧ c.get 0 = .int .i64 ((p + 1 : Nat) : Int)) ∧
   (z = .bool true ∧ g'.get y = some (.loop (lvT tr m)) ∧ ¬ (tn = 0 ∧ ((p + 1 : Nat) : Int) = leave) ∨ z = .bool false ∧ g'.get y = some (.loop { lvT tr m with state := .done, pending := some (.exit 2) }) ∧ tn = 0 ∧ ((p + 1 : Nat) : Int) = leave)) := by
 have hwo := hw.lr.one
 have hlt := Heap.lt_of_get hy
 simp only [lvT] at hy ⊢
 refine SY.go Go.Proofs.Ytakgjjbmniilhaa.hm hy trivial (.inr (.inl rfl)) rfl ir26_a0_eq ir26_b0_eq ?_
 simp -implicitDefEqProofs (disch := first | omega | (simp -implicitDefEqProofs only [szs, ne_eq] <;> omega) | fail) only [go_sem, seval, ↓reduceIte, ir26_a0]
 refine ⟨_, hy, rfl, ?_⟩
 obtain ⟨G1, eG⟩ : ∃ G1, G1 = g.set y (.loop ⟨.busy, none, ⟨139, tr⟩, [70, 71], (rc26 0).1, (rc26 0).2, m⟩) := ⟨_, rfl⟩
 rw [← eG]
 have nG : G1.n = g.n := by rw [eG]; simp
 have kG : ∀ b, b ≠ y → G1.get b = g.get b := fun b h1 => by rw [eG, qB hlt h1]
 have lG : G1.get y = some (.loop ⟨.busy, none, ⟨139, tr⟩, [70, 71], (rc26 0).1, (rc26 0).2, m⟩) := by rw [eG]; exact qF hlt rfl _
 clear eG
 obtain ⟨h4, h5, h8, n4, n5, n8, n9⟩ := hlo
 obtain ⟨x4, a4, s4, v4⟩ := c4
 obtain ⟨x5, a5, s5, v5⟩ := c5
 obtain ⟨x8, a8, s8, v8'⟩ := c8
 obtain ⟨x9, a9, s9, r9, v9'⟩ := c9
 rw [← kG _ n4] at a4
 rw [← kG _ n5] at a5
 rw [← kG _ n8] at a8
 rw [← kG _ n9] at a9
 have hr1 : RgX G1 N rp rd fr ct G := hr.keep (by omega) fun k _ h => kG k (hNl k h).2.1
 obtain ⟨⟨c, v8, v9, vs, hl1⟩, hltN, hNrp⟩ := hr1
 have l1 := hl1.l1
 have l2 := hl1.l2
 have k9 := hl1.k9
 have hp : p < G.rs.length := (List.getElem?_eq_some_iff.1 hl).1
 have hpv : p < vs.length := by rw [hl1.vl]; exact hp
 have c7 : c.get 7 = .int .u64 (G.H.fi : Int) := jG hl1.k3 (j := 4) (by omega)
 have hlen := hl1.vd.lr.lenV Try.underlying45
 rw [hl1.vl] at hlen
 obtain ⟨b, o, cap, ex, cc, ce, e9, hSb, hb, hs, hg⟩ := hl1.vd.lr.get hpv
 have hve := hl1.ve p l hl
 rw [← hg] at hve
 obtain ⟨rs1, q1, q2⟩ := jI (hw.lr.same (h' := G1) fun b hb _ => kG b (by omega)) hby
 obtain ⟨rs2, q3, q4⟩ := jI hve hby
 have hge : ¬ ((G.rs.length : Int) ≤ (p : Int)) := by omega
 have e1 : IntKind.i64.wrap (G.H.fi : Int) = (G.H.fi : Int) := by rw [IntWalk.i64_in] <;> omega
 have e2 : (G.H.fi : Int) + (p : Int) = ((G.H.fi + p : Nat) : Int) := by omega
 have hp0 : (0 : Int) ≤ (p : Int) := by omega
 have hpv' : (p : Int) < (vs.length : Int) := by omega
 have hos : o + p < cc.size := by omega
 subst e9
 simp -implicitDefEqProofs (disch := first | omega | (simp -implicitDefEqProofs only [szs, ne_eq] <;> omega) | fail) only [go_sem, seval, ↓reduceIte, ir26_b0, t4, t6, t9, a4, s4, v4, a9, s9, v9', l1, l2, k9, c7, ↓hlen, hge, e1, e2, cvd42_2, c42_2, cvSD, q1, hp0, hpv', hb, q3, sb_self]
 refine nine_loop (n0 := n0) (w := w) (l := l) (fun _ => trivial) (fun b hb => .inl hb) (hw.above fun b hb => kG b (by omega)) hll (by simp -implicitDefEqProofs (disch := first | omega | (simp -implicitDefEqProofs only [szs, ne_eq] <;> omega) | fail) only [go_sem, seval, ↓reduceIte]) (by simp -implicitDefEqProofs (disch := first | omega | (simp -implicitDefEqProofs only [szs, ne_eq] <;> omega) | fail) only [go_sem, seval, ↓reduceIte]) fun tr' g2 ht hh => ?_
 have t5' : tr'.get 5 = some (.ptr (some (b5, 0))) := (ht 5 (by omega) (by omega)).trans (by simp -implicitDefEqProofs (disch := first | omega | (simp -implicitDefEqProofs only [szs, ne_eq] <;> omega) | fail) only [go_sem, seval, ↓reduceIte, t5])
 have t8' : tr'.get 8 = some (.ptr (some (b8, 0))) := (ht 8 (by omega) (by omega)).trans (by simp -implicitDefEqProofs (disch := first | omega | (simp -implicitDefEqProofs only [szs, ne_eq] <;> omega) | fail) only [go_sem, seval, ↓reduceIte, t8])
 have t9' : tr'.get 9 = some (.ptr (some (b9, 0))) := (ht 9 (by omega) (by omega)).trans (by simp -implicitDefEqProofs (disch := first | omega | (simp -implicitDefEqProofs only [szs, ne_eq] <;> omega) | fail) only [go_sem, seval, ↓reduceIte, t9])
 clear ht
 have a5' := (hh.2.1 b5 (.inl h5)).trans a5
 have a8' := (hh.2.1 b8 (.inl h8)).trans a8
 have a9' := (hh.2.1 b9 (.inl h9n)).trans a9
 have l9 := Heap.lt_of_get a9'
 have ly := (hh.2.1 y (.inl hyn)).trans lG
 have l9y : ∀ (o : O), (g2.set b9 o).get y = some (.loop ⟨.busy, none, ⟨139, tr⟩, [70, 71], (rc26 0).1, (rc26 0).2, m⟩) := fun o => (qB l9 (Ne.symm n9) o).trans ly
 have e3 : (p : Int) + 1 = ((p + 1 : Nat) : Int) := by omega
 have e4 : IntKind.i64.wrap ((p + 1 : Nat) : Int) = ((p + 1 : Nat) : Int) := by rw [IntWalk.i64_in] <;> omega
 have l2y := Heap.lt_of_get ly
 have hG : ∀ (o : O) (x : Blk) b, b ≠ y → b ≠ b9 → (b < n0 ∨ ∀ c, g.get b ≠ some (.cells c 5)) → ((g2.set b9 (.cells x 3)).set y o).get b = g.get b := fun o x b h1 h2 h3 => by
  rw [qB (by simp only [Heap.n_set]; exact l2y) h1, qB l9 h2, hh.2.1 b (h3.imp id fun h c => by rw [kG b h1]; exact h c), kG b h1]
 have h9 : ∀ (o : O) (x : Blk), ((g2.set b9 (.cells x 3)).set y o).get b9 = some (.cells x 3) := fun o x => by
  rw [qB (by simp only [Heap.n_set]; exact l2y) n9]; exact qF l9 rfl _
 by_cases htn : tn = 0
 ·subst htn
  by_cases hle : ((p + 1 : Nat) : Int) = leave
  ·simp -implicitDefEqProofs (disch := first | omega | (simp -implicitDefEqProofs only [szs, ne_eq] <;> omega) | fail) only [go_sem, seval, ↓reduceIte, qE, t5', t8', t9', a9', s9, r9, v9', e3, a8', s8, v8', a5', s5, v5, hle]
   exact ⟨_, ly, by rw [hh.1, nG], fun b => hG _ _ b, ⟨_, rfl, by simp only [Blk.size_set]; exact s9, by simp only [Blk.qY]; exact r9, by rw [Blk.get_set, if_pos rfl]⟩, .inr ⟨rfl, rfl⟩⟩
  ·simp -implicitDefEqProofs (disch := first | omega | (simp -implicitDefEqProofs only [szs, ne_eq] <;> omega) | fail) only [go_sem, seval, ↓reduceIte, qE, t5', t8', t9', a9', s9, r9, v9', e3, e4, a8', s8, v8', a5', s5, v5, hle]
   exact ⟨_, ly, by rw [hh.1, nG], fun b => hG _ _ b, ⟨_, rfl, by simp only [Blk.size_set]; exact s9, by simp only [Blk.qY]; exact r9, by rw [Blk.get_set, if_pos rfl]⟩, .inl ⟨rfl, rfl, id⟩⟩
 ·have htn' : ((tn : Int) == 0) = false := by simp; exact htn
  simp -implicitDefEqProofs (disch := first | omega | (simp -implicitDefEqProofs only [szs, ne_eq] <;> omega) | fail) only [go_sem, seval, ↓reduceIte, qE, t8', t9', a9', s9, r9, v9', e3, e4, a8', s8, v8', htn']
  exact ⟨_, ly, by rw [hh.1, nG], fun b => hG _ _ b, ⟨_, rfl, by simp only [Blk.size_set]; exact s9, by simp only [Blk.qY]; exact r9, by rw [Blk.get_set, if_pos rfl]⟩, .inl ⟨rfl, rfl, fun h => htn h.1⟩⟩
end Go.Proofs.Ytakgjjbmniilhaa
set_option maxRecDepth 100000
set_option linter.unusedVariables false
namespace Go.Proofs.Ytakgjjbmniilhaa
open Go Go.Vm
attribute [-go_sem] qQ
variable {h g : Heap} {R W M N N' : Set'} {bd lp rd rp fr ct : Nat} {D : DS} {G : LgS}
noncomputable def ir26_w : LC := (.seq (.ops [⟨some 61, Op.move (Operand.tmp 0), none⟩,
  ⟨some 62, Op.call { callee := Callee.value (Operand.func 21), args := #[Operand.tmp 61], argTypes := #[32] }, none⟩,
  ⟨some 7, Op.assign (Operand.tmp 62), none⟩])
 (.seq (.seq (.ops [⟨some 63, Op.move (Operand.tmp 7), none⟩,
  ⟨some 64, Op.binOp BinOp.eql 52 (Operand.tmp 63) (Operand.const Value.nilFunc) 52, none⟩])
 (.cond (Operand.tmp 64)
 (.seq (.ops [⟨none, Op.store 4 (Operand.tmp 6) (Operand.const (Value.bool false)), none⟩])
 .ret)
 .skip))
 (.seq (.seq (.ops [⟨some 8, Op.alloc 3, none⟩,
  ⟨none, Op.store 3 (Operand.tmp 8) (Operand.const (Value.int IntKind.i64 0)), none⟩])
 (.block 0 (.loop ir26_l1)))
 (.seq (.ops [⟨none, Op.store 4 (Operand.tmp 6) (Operand.const (Value.bool true)), none⟩])
 .ret))))
noncomputable def ir26_c : LC := (.seq (.ops [⟨some 4, Op.box 57 (Operand.tmp 1), none⟩,
  ⟨some 5, Op.box 3 (Operand.tmp 2), none⟩,
  ⟨some 6, Op.alloc 4, none⟩])
 (.seq (match ir26 with
  | .seq _ (.seq c _) => c
  | _ => .skip)
 ir26_w))
theorem ir26_c_eq : ir26 = ir26_c := rfl
theorem i64_neq (n : Int) : intBin .neq .i64 n n = some (.bool false) := by
 show some (V.bool _) = _
 simp
structure GOk (G : LgS) : Prop where
 sb : Byt G.sn
 sl : G.sn.length ≤ 1000000
 ep : G.H.ep < 9223372036854775808
 nx : G.nx < 9223372036854775808 ∧ 1 ≤ G.nx
 sy : G.sy < 9223372036854775808
 fi : G.H.fi ≤ 4611686018427387904
 at' : G.at' ≤ 1000000
 rl : G.rs.length ≤ 1000000
 rb : ∀ l ∈ G.rs, Byt l ∧ l.length ≤ 1000000
set_option maxHeartbeats 8000000 in
theorem stands_head {leave : Int} (hk : ∀ tr (g g1 : Heap), g1.n = h.n + 3 → g1.n ≤ g.n → (∀ b, b < h.n → g.get b = h.get b) → g.get h.n = some (.cells (Blk.of [.ptr (some (rp, 0))]) 57) → g.get (h.n + 1) = some (.cells (Blk.of [.int .i64 leave]) 3) → g.get (h.n + 2) = some (.cells (Blk.of [.bool false]) 4) → tr.get 0 = some (.ptr (some (lp, 0))) → tr.get 4 = some (.ptr (some (h.n, 0))) → tr.get 5 = some (.ptr (some (h.n + 1, 0))) → tr.get 6 = some (.ptr (some (h.n + 2, 0))) → GO ⟨Try.prog, true⟩ (fun b => h.n ≤ b ∨ R b) (fun b => h.n ≤ b ∨ W b) none (Vm.Fin ⟨Try.prog, true⟩ (fun b => h.n ≤ b ∨ R b) (fun b => h.n ≤ b ∨ W b) [.cell 6 4] fun v g => v = .bool true ∧ h.n ≤ g.n ∧ ∀ b, b < h.n → g.get b = h.get b) [.code ir26_w] ⟨⟨139, tr⟩, []⟩ g) (hl : LgX h N lp bd fr ct G) (hr : RgX h N' rp rd fr ct G) (hG : GOk G) (hc : 16 ≤ ct ∧ ct ≤ 4096 ∧ fr ≤ 4096) (hR : ∀ b, R b) :
  SF ⟨Try.prog, true⟩ 26 [.ptr (some (lp, 0)), .ptr (some (rp, 0)), .int .i64 leave] h R W fun v g => v = .bool true ∧ h.n ≤ g.n ∧ ∀ b, b < h.n → g.get b = h.get b := by
 refine SF.go hm Try.func26 ir26_eq ?_
 rw [ir26_c_eq]
 simp -implicitDefEqProofs (disch := first | omega | (simp -implicitDefEqProofs only [szs, ne_eq] <;> omega) | fail) only [go_sem, seval, ↓reduceIte, reduceCtorEq, ir26_c, ir26]
 obtain ⟨g1, e1⟩ : ∃ g1, g1 = ((h.push (.cells (Blk.of [.ptr (some (rp, 0))]) 57)).push (.cells (Blk.of [.int .i64 leave]) 3)).push (.cells (Blk.of [.bool false]) 4) := ⟨_, rfl⟩
 rw [← e1]
 have n1 : g1.n = h.n + 3 := by rw [e1]; simp
 have k1 : ∀ b, b < h.n → g1.get b = h.get b := fun b hb => by rw [e1, qC (by simp; omega), qC (by simp; omega), qC (by omega)]
 have q4 : g1.get h.n = some (.cells (Blk.of [.ptr (some (rp, 0))]) 57) := by rw [e1, qC (by simp only [Heap.qG]; omega), qC (by simp only [Heap.qG]; omega)]; exact qH rfl _
 have q5 : g1.get (h.n + 1) = some (.cells (Blk.of [.int .i64 leave]) 3) := by rw [e1, qC (by simp only [Heap.qG]; omega)]; exact qH (by simp) _
 have q6 : g1.get (h.n + 2) = some (.cells (Blk.of [.bool false]) 4) := by rw [e1]; exact qH (by simp) _
 clear e1
 have hl1 : LgX g1 N lp bd fr ct G := hl.keep (by omega) fun k h _ => k1 k h
 have hr1 : RgX g1 N' rp rd fr ct G := hr.keep (by omega) fun k h _ => k1 k h
 refine qN.of (SF.foot (snapshot_ok (R := qR) (W := noW) hl1 (fun _ => trivial) hG.sb hG.sl).kept (fun _ h => h) (fun _ h => h)) ?_
 rintro sv g2 ⟨⟨o2, k2⟩, vf2⟩
 have n2 := vf2.n
 have q4' := (k2 h.n (by omega)).trans q4
 obtain ⟨c, v8, v9, vs, hrr⟩ := (hr1.keep n2 fun k h _ => k2 k h).a
 have l1 := hrr.l1
 have l2 := hrr.l2
 have k8 := hrr.k8
 obtain ⟨rs1, u1, _⟩ := jI o2.lr hG.sb
 obtain ⟨rs2, u2, hu2⟩ := jI hrr.sd hG.sb
 have hrpl := hr1.lt rp hr1.l
 have hrs2 : ∀ b ∈ rs2, b < g1.n := fun b hb => hr1.lt b (hu2 b hb).1.1
 simp -implicitDefEqProofs (maxSteps := 2000000) (disch := first | omega | (simp -implicitDefEqProofs only [szs, ne_eq] <;> omega) | fail) only [go_sem, seval, ↓reduceIte, reduceCtorEq, qE, q4', cvSD, u1, u2, l1, l2, k8, sb_self]
 have hl2 : LgX g2 N lp bd fr ct G := hl1.keep n2 fun k h _ => k2 k h
 refine qN.of (SF.foot (room_ok (R := qR) (W := noW) hl2 ⟨hc.1, hc.2.1⟩ hc.2.2 (fun _ => trivial) hG.at').kept (fun _ h => h) (fun _ h => h)) ?_
 rintro r g3 ⟨⟨rfl, n3, k3⟩, vf3⟩
 have q43 := (k3 h.n (by omega)).trans q4'
 have k13 : ∀ b, b < h.n → g3.get b = h.get b := fun b hb => by rw [k3 b (by omega), k2 b (by omega), k1 b hb]
 have hl3 : LgX g3 N lp bd fr ct G := hl.keep (by omega) fun k h _ => k13 k h
 have hr3 : RgX g3 N' rp rd fr ct G := hr.keep (by omega) fun k h _ => k13 k h
 have L1 := (k3 rp (Heap.lt_of_get l1)).trans l1
 simp -implicitDefEqProofs (maxSteps := 2000000) (disch := first | omega | (simp -implicitDefEqProofs only [szs, ne_eq] <;> omega) | fail) only [go_sem, seval, ↓reduceIte, reduceCtorEq, qE, q43]
 refine qN.of (SF.foot (rroom_ok (R := qR) (W := noW) hr3 ⟨hc.1, hc.2.1⟩ (fun _ => trivial) hG.at') (fun _ h => h) (fun _ h => h)) ?_
 rintro r g3 ⟨rfl, rfl⟩
 have e3 := hrr.k3
 have e10 := hrr.k10
 have e12 := hrr.k12
 have d3 : c.get 3 = .int .u64 (G.H.ep : Int) := jG hrr.k3 (j := 0) (by omega)
 have w1 : IntKind.i64.wrap (G.H.ep : Int) = (G.H.ep : Int) := by have := hG.ep; rw [IntWalk.i64_in] <;> omega
 have w2 : IntKind.i64.wrap (G.nx : Int) = (G.nx : Int) := by have := hG.nx; rw [IntWalk.i64_in] <;> omega
 have w3 : IntKind.i64.wrap (G.sy : Int) = (G.sy : Int) := by have := hG.sy; rw [IntWalk.i64_in] <;> omega
 have w4 : IntKind.i64.wrap ((G.nx : Int) - 1) = (G.nx : Int) - 1 := by have := hG.nx; rw [IntWalk.i64_in] <;> omega
 simp -implicitDefEqProofs (maxSteps := 2000000) (disch := first | omega | (simp -implicitDefEqProofs only [szs, ne_eq] <;> omega) | fail) only [go_sem, seval, ↓reduceIte, reduceCtorEq]
 refine qN.of (SF.foot (epoch_ok (R := qR) (W := noW) hl3 (fun _ => trivial) hG.ep) (fun _ h => h) (fun _ h => h)) ?_
 rintro r g3 ⟨rfl, rfl⟩
 simp -implicitDefEqProofs (maxSteps := 2000000) (disch := first | omega | (simp -implicitDefEqProofs only [szs, ne_eq] <;> omega) | fail) only [go_sem, seval, ↓reduceIte, reduceCtorEq, qE, q43, L1, l2, d3, cvd42_2, c42_2, w1]
 refine qN.of (SF.foot (last_ok (R := qR) (W := noW) hl3 (fun _ => trivial) hG.nx.1) (fun _ h => h) (fun _ h => h)) ?_
 rintro r g3 ⟨rfl, rfl⟩
 simp -implicitDefEqProofs (maxSteps := 2000000) (disch := first | omega | (simp -implicitDefEqProofs only [szs, ne_eq] <;> omega) | fail) only [go_sem, seval, ↓reduceIte, reduceCtorEq, qE, q43, L1, l2, e10, cvd42_2, c42_2, w2, w4]
 refine qN.of (SF.foot (synced_ok (R := qR) (W := noW) hl3 (fun _ => trivial) hG.sy) (fun _ h => h) (fun _ h => h)) ?_
 rintro r g3 ⟨rfl, rfl⟩
 simp -implicitDefEqProofs (maxSteps := 2000000) (disch := first | omega | (simp -implicitDefEqProofs only [szs, ne_eq] <;> omega) | fail) only [go_sem, seval, ↓reduceIte, reduceCtorEq, qE, q43, L1, l2, e12, cvd42_2, c42_2, w3]
 refine ⟨?_, ?_, ?_⟩
 ·repeat' apply And.intro
  all_goals
   intro b hb hc
   simp [noW] at hb hc
   try first
    | omega
    | (have := hrs2 b hc.2; omega)
 ·repeat' apply And.intro
  all_goals first
   | exact fun _ => .inr (hR _)
   | exact fun b _ _ => .inr (hR b)
   | exact fun b _ h => h.elim
   | exact fun b _ h => nomatch h
 refine hk _ _ _ n1 (by omega) k13 ?_ ?_ ?_ (by simp -implicitDefEqProofs (disch := first | omega | (simp -implicitDefEqProofs only [szs, ne_eq] <;> omega) | fail) only [go_sem, seval, ↓reduceIte]) (by simp -implicitDefEqProofs (disch := first | omega | (simp -implicitDefEqProofs only [szs, ne_eq] <;> omega) | fail) only [go_sem, seval, ↓reduceIte, reduceCtorEq]) (by simp -implicitDefEqProofs (disch := first | omega | (simp -implicitDefEqProofs only [szs, ne_eq] <;> omega) | fail) only [go_sem, seval, ↓reduceIte, reduceCtorEq]) (by simp -implicitDefEqProofs (disch := first | omega | (simp -implicitDefEqProofs only [szs, ne_eq] <;> omega) | fail) only [go_sem, seval, ↓reduceIte, reduceCtorEq])
 ·exact q43
 ·rw [k3 _ (by omega), k2 _ (by omega)]; exact q5
 ·rw [k3 _ (by omega), k2 _ (by omega)]; exact q6
end Go.Proofs.Ytakgjjbmniilhaa
set_option maxRecDepth 100000
set_option linter.unusedVariables false
namespace Go.Proofs.Ytakgjjbmniilhaa
open Go Go.Vm
attribute [-go_sem] qQ
variable {h g : Heap} {R W M N N' : Set'} {bd lp rd rp fr ct : Nat} {D : DS} {G : LgS}
structure StB (g : Heap) (N : Set') (rp rd fr ct : Nat) (G : LgS) (b3 bf b4 b5 : Nat) (leave : Int) (v : V) (vs : List V) : Prop where
 r : RgX g N rp rd fr ct G
 c3 : ∃ c, g.get b3 = some (.cells c 45) ∧ c.size = 1 ∧ c.get 0 = v
 cf : ∃ c, g.get bf = some (.cells c 2) ∧ c.size = 1 ∧ c.get 0 = .int .i64 (G.H.fi : Int)
 c4 : ∃ c, g.get b4 = some (.cells c 57) ∧ c.size = 1 ∧ c.get 0 = .ptr (some (rp, 0))
 c5 : ∃ c, g.get b5 = some (.cells c 3) ∧ c.size = 1 ∧ c.get 0 = .int .i64 leave
 hv : LR g (fun _ => True) v vs
 vl : vs.length = G.rs.length
 ve : ∀ i l, G.rs[i]? = some l → LR g (fun _ => True) (vs.getD i qE) l
theorem StB.old {b3 bf b4 b5 : Nat} {leave : Int} {v : V} {vs : List V} (hb : StB h N rp rd fr ct G b3 bf b4 b5 leave v vs) (hn : h.n ≤ g.n) (hk : ∀ b, b < h.n → g.get b = h.get b) : StB g N rp rd fr ct G b3 bf b4 b5 leave v vs := by
 obtain ⟨r, ⟨c3, p3, q3⟩, ⟨cf, pf, qf⟩, ⟨c4, p4, q4⟩, ⟨c5, p5, q5⟩, hv, vl, ve⟩ := hb
 exact ⟨r.keep hn fun k h _ => hk k h, ⟨c3, (hk _ (Heap.lt_of_get p3)).trans p3, q3⟩, ⟨cf, (hk _ (Heap.lt_of_get pf)).trans pf, qf⟩, ⟨c4, (hk _ (Heap.lt_of_get p4)).trans p4, q4⟩, ⟨c5, (hk _ (Heap.lt_of_get p5)).trans p5, q5⟩, hv.old hk, vl, fun i l hi => (ve i l hi).old hk⟩
structure TnI (h g : Heap) (y b9 : Nat) (x : Int) (lv : Loopv) : Prop where
 n : h.n ≤ g.n
 k : ∀ b, b < h.n → b ≠ y → b ≠ b9 → g.get b = h.get b
 y : g.get y = some (.loop lv)
 c : ∃ c, g.get b9 = some (.cells c 3) ∧ c.size = 1 ∧ c.ro = false ∧ c.get 0 = .int .i64 x
theorem TnI.keep {g' : Heap} {y b9 : Nat} {x : Int} {lv : Loopv} (hi : TnI h g y b9 x lv) (hn : g.n ≤ g'.n) (hk : ∀ b, b < h.n → g'.get b = g.get b) (hy : y < h.n) (h9 : b9 < h.n) : TnI h g' y b9 x lv := by
 obtain ⟨n, k, hyy, c, q1, q2⟩ := hi
 exact ⟨by omega, fun b h1 h2 h3 => (hk b h1).trans (k b h1 h2 h3), (hk y hy).trans hyy, c, (hk b9 h9).trans q1, q2⟩
set_option maxHeartbeats 8000000 in
theorem turn_rg {b3 bf b4 b5 b6 b8 b9 tn y m : Nat} {leave : Int} {v : V} {vs : List V} {tr : Tr V} (hb : StB g N rp rd fr ct G b3 bf b4 b5 leave v vs) (hG : GOk G) (hgn : g.n ≤ h.n) (kh : ∀ b, b < g.n → h.get b = g.get b) (hy : y < h.n) (h9 : b9 < h.n) (hyg : g.n ≤ y) (h9g : g.n ≤ b9) (hy9 : b9 ≠ y) (h8g : b8 < h.n) (h8y : b8 ≠ y) (h89 : b8 ≠ b9)
  (hyl : h.get y = some (.loop (lvT tr m)))
  (t4 : tr.get 4 = some (.ptr (some (b4, 0)))) (t5 : tr.get 5 = some (.ptr (some (b5, 0)))) (t6 : tr.get 6 = some (.ptr (some (b6, 0)))) (t8 : tr.get 8 = some (.ptr (some (b8, 0)))) (t9 : tr.get 9 = some (.ptr (some (b9, 0))))
  (c8 : ∃ c, h.get b8 = some (.cells c 3) ∧ c.size = 1 ∧ c.get 0 = .int .i64 (tn : Int)) (c9 : ∃ c, h.get b9 = some (.cells c 3) ∧ c.size = 1 ∧ c.ro = false ∧ c.get 0 = .int .i64 0) :
  SF ⟨Try.prog, true⟩ 46 [.yield y, .ptr (some (b3, 0)), .ptr (some (bf, 0))] h (fun _ => True) (fun b => b = y ∨ b = b9) fun _ g' => TnI h g' y b9 (G.rs.length : Int) (lvT tr m) ∨ (tn = 0 ∧ TnI h g' y b9 leave { lvT tr m with state := .done, pending := some (.exit 2) }) := by
 have hbh := hb.old hgn kh
 obtain ⟨cf, pf, qf⟩ := hb.cf
 have hbf := Heap.lt_of_get pf
 obtain ⟨x4, p4, q4⟩ := hb.c4
 have hb4 := Heap.lt_of_get p4
 obtain ⟨x5, p5, q5⟩ := hb.c5
 have hb5 := Heap.lt_of_get p5
 obtain ⟨x8, p8, q8⟩ := c8
 refine seq46 (h := h) (y := y) (fi := G.H.fi) (v := v) (vs := vs) (rs := G.rs) (S := fun b => b < g.n) (T := fun b => b < g.n) (fun p g' => TnI h g' y b9 (p : Int) (lvT tr m)) (fun g' => tn = 0 ∧ TnI h g' y b9 leave { lvT tr m with state := .done, pending := some (.exit 2) }) hbh.c3 hbh.cf
  ((hb.hv.mono (R' := fun b => b < g.n) fun b hb _ => hb).old kh) hb.vl hG.rl (fun i l hi => ((hb.ve i l hi).mono (R' := fun b => b < g.n) fun b hb _ => hb).old kh) hG.rb hG.fi ⟨Nat.le_refl _, fun _ _ _ _ => rfl, hyl, c9⟩ (fun p g' hI => ⟨hI.n, fun b hb hbl => hI.k b hbl (by rcases hb with h | h | h <;> omega) (by rcases hb with h | h | h <;> omega)⟩) (fun p g1 g2 hI h1 h2 => hI.keep h1 h2 hy h9) (fun g1 g2 hJ h1 h2 => ⟨hJ.1, hJ.2.keep h1 h2 hy h9⟩) (fun b hb => by rcases hb with rfl | rfl <;> assumption) ?_
 rintro p n0 g1 w l hl hI ho hn0
 have k1 : ∀ b, b < g.n → g1.get b = g.get b := fun b hb => (hI.k b (by omega) (by omega) (by omega)).trans (kh b hb)
 have hg1 := hI.n
 have hlm := List.mem_of_getElem? hl
 refine SY.mono (rnd26 (n0 := h.n) (m := m) (b4 := b4) (b5 := b5) (b6 := b6) (b8 := b8) (tn := tn) (leave := leave) (tr := tr) (N := fun k => N k ∧ k < g.n) (rp := rp) (rd := rd) (fr := fr) (ct := ct) (G := G) hI.y hy h9 t4 t5 t6 t8 t9 ⟨x4, (k1 b4 hb4).trans p4, q4⟩ ⟨x5, (k1 b5 hb5).trans p5, q5⟩ ⟨x8, (hI.k b8 h8g h8y h89).trans p8, q8⟩ hI.c ⟨h89, by omega⟩ ?_ (fun k hk => ⟨by omega, by omega, by omega⟩) (ho.mono hn0) hl (hG.rb l hlm).1 (hG.rb l hlm).2 hG.rl hG.fi ⟨by omega, by omega, h8g, by omega, by omega, h8y, hy9⟩) ?_
 ·obtain ⟨⟨c, v8, v9, vs', hrr⟩, hlt, hN⟩ := hb.r.keep (g := g1) (by omega) fun k hk _ => k1 k hk
  exact ⟨⟨c, v8, v9, vs', hrr.mono fun k hk hNk => ⟨hNk, hb.r.lt k hNk⟩⟩, fun k hk => hlt k hk.1, ⟨hN, hb.r.lt _ hN⟩⟩
 ·rintro z g2 ⟨e1, e2, e3, e4⟩
  have e5 : ∀ b, b < h.n → b ≠ y → b ≠ b9 → g2.get b = h.get b := fun b h1 h2 h3 => (e2 b h2 h3 (.inl h1)).trans (hI.k b h1 h2 h3)
  refine ⟨?_, by omega, fun b h1 h2 h3 => e2 b (by omega) (by omega) (.inr h3)⟩
  rcases e4 with ⟨rfl, e4, e6⟩ | ⟨rfl, e4, e6, e7⟩
  ·exact .inl ⟨rfl, by omega, e5, e4, e3⟩
  ·exact .inr ⟨rfl, e6, by omega, e5, e4, by rw [← e7]; exact e3⟩
end Go.Proofs.Ytakgjjbmniilhaa
set_option maxRecDepth 100000
set_option linter.unusedVariables false
namespace Go.Proofs.Ytakgjjbmniilhaa
open Go Go.Vm
attribute [-go_sem] qQ
variable {h g : Heap} {R W M N N' : Set'} {bd lp rd rp fr ct : Nat} {D : DS} {G : LgS}
set_option maxHeartbeats 8000000 in
theorem trg26 {g0 g : Heap} {Q : Ex → Fr → Heap → Prop} {t : List It} {mks : List Nat} {b3 bf b4 b5 b6 b8 b9 tn : Nat} {leave : Int} {v : V} {vs : List V} {tr : Tr V} (hb : StB g0 N rp rd fr ct G b3 bf b4 b5 leave v vs) (hG : GOk G) (hR : ∀ b, R b) (hW : ∀ b, g0.n ≤ b → W b) (hgn : g0.n ≤ g.n) (hold : ∀ b, b < g0.n → g.get b = g0.get b) (h9 : g0.n ≤ b9) (h89 : b8 ≠ b9)
  (c8 : ∃ c, g.get b8 = some (.cells c 3) ∧ c.size = 1 ∧ c.get 0 = .int .i64 (tn : Int)) (c9 : ∃ c, g.get b9 = some (.cells c 3) ∧ c.size = 1 ∧ c.ro = false ∧ c.get 0 = .int .i64 0)
  (t4 : tr.get 4 = some (.ptr (some (b4, 0)))) (t5 : tr.get 5 = some (.ptr (some (b5, 0)))) (t6 : tr.get 6 = some (.ptr (some (b6, 0)))) (t8 : tr.get 8 = some (.ptr (some (b8, 0)))) (t9 : tr.get 9 = some (.ptr (some (b9, 0)))) (t69 : tr.get 69 = some (.func 46 [] [.ptr (some (b3, 0)), .ptr (some (bf, 0))]))
  (hk : ∀ g3 m x, (x = (G.rs.length : Int) ∨ tn = 0 ∧ x = leave) → g.n ≤ m → g3.get m = some (.deferred true) → g.n ≤ g3.n → (∀ b, b < g.n → b ≠ b9 → g3.get b = g.get b) → (∃ c, g3.get b9 = some (.cells c 3) ∧ c.size = 1 ∧ c.ro = false ∧ c.get 0 = .int .i64 x) → GO ⟨Try.prog, true⟩ R W none Q t ⟨⟨139, tr⟩, m :: mks⟩ g3) :
  yH ⟨Try.prog, true⟩ R W none Q (.tmp 69) #[70, 71] (rc26 0).1 (rc26 0).2 (.blk 2 :: t) ⟨⟨139, tr⟩, mks⟩ g := by
 refine yH.outer (k := 46) (xs := []) (ys := [.ptr (some (b3, 0)), .ptr (some (bf, 0))]) (by simp -implicitDefEqProofs (disch := omega) only [go_sem, seval, t69]) ca_46 ?_
 obtain ⟨hA, eA⟩ : ∃ hA, hA = (g.push (.deferred true)).push (.loop (lvT tr g.n)) := ⟨_, rfl⟩
 rw [show (([] ++ [V.yield (g.n + 1)]) ++ [.ptr (some (b3, 0)), .ptr (some (bf, 0))] : List V) = [V.yield (g.n + 1), .ptr (some (b3, 0)), .ptr (some (bf, 0))] from rfl, show (#[70, 71] : Array Tmp).toList = [70, 71] from rfl, show (⟨.ready, none, ⟨139, tr⟩, [70, 71], (rc26 0).1, (rc26 0).2, g.n⟩ : Loopv) = lvT tr g.n from rfl, ← eA]
 have nA : hA.n = g.n + 2 := by rw [eA]; simp
 have kA : ∀ b, b < g.n → hA.get b = g.get b := fun b hb => by rw [eA, qC (by simp; omega), qC (by omega)]
 have mA : hA.get g.n = some (.deferred true) := by rw [eA, qC (by simp)]; exact qH rfl _
 have lA : hA.get (g.n + 1) = some (.loop (lvT tr g.n)) := by rw [eA]; exact qH (by simp) _
 clear eA
 obtain ⟨x8, p8, q8⟩ := c8
 obtain ⟨x9, p9, q9⟩ := c9
 have l8 := Heap.lt_of_get p8
 have l9 := Heap.lt_of_get p9
 refine SF.mono (SF.foot (turn_rg (g := g0) (h := hA) (b3 := b3) (bf := bf) (b4 := b4) (b5 := b5) (b6 := b6) (b8 := b8) (b9 := b9) (tn := tn) (y := g.n + 1) (m := g.n) (v := v) (vs := vs) hb hG (by omega) (fun b hb => by rw [kA b (by omega), hold b hb]) (by omega) (by omega) (by omega) h9 (by omega) (by omega) (by omega) h89 lA t4 t5 t6 t8 t9 ⟨x8, (kA b8 l8).trans p8, q8⟩ ⟨x9, (kA b9 l9).trans p9, q9⟩) (fun b _ => hR b) fun b hb => by rcases hb with rfl | rfl <;> exact hW _ (by omega)) ?_
 have fin : ∀ (g2 : Heap) (x : Int) (lv : Loopv) (o : O), (x = (G.rs.length : Int) ∨ tn = 0 ∧ x = leave) → TnI hA g2 (g.n + 1) b9 x lv → GO ⟨Try.prog, true⟩ R W none Q t ⟨⟨139, tr⟩, g.n :: mks⟩ (g2.set (g.n + 1) o) := fun g2 x lv o hx hI => by
  have hn2 := hI.n
  have hlt := Heap.lt_of_get hI.y
  obtain ⟨c, q1, q2⟩ := hI.c
  refine hk _ _ x hx (Nat.le_refl _) ?_ (by rw [Heap.n_set]; omega) (fun b hb h => ?_) ⟨c, (qB hlt (by omega) _).trans q1, q2⟩
  ·rw [qB hlt (by omega), hI.k g.n (by omega) (by omega) (by omega), mA]
  ·rw [qB hlt (by omega), hI.k b (by omega) (by omega) h, kA b hb]
 rintro v2 g2 (hI | ⟨ht, hI⟩)
 ·refine ⟨_, hI.y, by simp [lvT], hW _ (by omega), ?_⟩
  simp only [lvT]
  simp -implicitDefEqProofs (disch := omega) only [go_sem, seval]
  exact fin g2 _ _ _ (.inl rfl) hI
 ·refine ⟨_, hI.y, by simp [lvT], hW _ (by omega), ?_⟩
  simp only [lvT]
  simp -implicitDefEqProofs (disch := omega) only [go_sem, seval, ↓reduceIte]
  exact fin g2 _ _ _ (.inr ⟨ht, rfl⟩) hI
set_option maxHeartbeats 8000000 in
theorem st_turns {g0 : Heap} {Q' : Ex → Fr → Heap → Prop} {t : List It} {b3 bf b4 b5 b6 b8 : Nat} {leave : Int} {v : V} {vs : List V} (hb : StB g0 N rp rd fr ct G b3 bf b4 b5 leave v vs) (hG : GOk G) (hR : ∀ b, R b) (hW : ∀ b, g0.n ≤ b → W b)
  (hk : ∀ tr g m0 m1, tr.get 6 = some (.ptr (some (b6, 0))) → g0.n ≤ g.n → (∀ b, b < g0.n → g.get b = g0.get b) → g0.n ≤ m0 → g0.n ≤ m1 → m0 ≠ m1 → g.get m0 = some (.deferred true) → g.get m1 = some (.deferred true) → resume ⟨Try.prog, true⟩ R W none Q' t (.exit 0) ⟨⟨139, tr⟩, [m1, m0]⟩ g)
  {tr : Tr V} {g : Heap} (hold : ∀ b, b < g0.n → g.get b = g0.get b) (hgn : g0.n ≤ g.n) (h8 : g0.n ≤ b8) (c8 : ∃ c, g.get b8 = some (.cells c 3) ∧ c.size = 1 ∧ c.ro = false ∧ c.get 0 = .int .i64 0)
  (t4 : tr.get 4 = some (.ptr (some (b4, 0)))) (t5 : tr.get 5 = some (.ptr (some (b5, 0)))) (t6 : tr.get 6 = some (.ptr (some (b6, 0)))) (t7 : tr.get 7 = some (.func 46 [] [.ptr (some (b3, 0)), .ptr (some (bf, 0))])) (t8 : tr.get 8 = some (.ptr (some (b8, 0)))) : kE ⟨Try.prog, true⟩ R W none Q' ir26_l1 t ⟨⟨139, tr⟩, []⟩ g := by
 refine kE.inv hm (fun k f g => f.tm.n = 139 ∧ f.tm.get 4 = some (.ptr (some (b4, 0))) ∧ f.tm.get 5 = some (.ptr (some (b5, 0))) ∧ f.tm.get 6 = some (.ptr (some (b6, 0))) ∧ f.tm.get 7 = some (.func 46 [] [.ptr (some (b3, 0)), .ptr (some (bf, 0))]) ∧ (∀ b, b < g0.n → g.get b = g0.get b) ∧ g0.n ≤ g.n ∧ ∃ tv b8 : Nat, tv + k = 2 ∧ f.tm.get 8 = some (.ptr (some (b8, 0))) ∧ g0.n ≤ b8 ∧ (∃ c, g.get b8 = some (.cells c 3) ∧ c.size = 1 ∧ c.ro = false ∧ c.get 0 = .int .i64 (tv : Int)) ∧ f.mks.length = tv ∧ f.mks.Nodup ∧ ∀ m ∈ f.mks, g0.n ≤ m ∧ g.get m = some (.deferred true)) 2 ?_ ?_
 ·exact ⟨rfl, t4, t5, t6, t7, hold, hgn, 0, b8, by omega, t8, h8, c8, rfl, List.nodup_nil, fun m hm => by cases hm⟩
 clear t4 t5 t6 t7 t8 hold hgn h8 c8
 clear tr b8 g
 rintro k ⟨⟨n', tr⟩, mks⟩ g ⟨hn', t4, t5, t6, t7, hold, hgn, tv, b8, htv, t8, h8, ⟨c, e8, s8, r8, v8⟩, hml, hmn, hmm⟩
 simp only [Tm.kL] at hn' t4 t5 t6 t7 t8 hml hmn hmm
 subst hn'
 have hbg := hb.old hgn hold
 have hlt8 := Heap.lt_of_get e8
 have hR8 := hR b8
 by_cases htv2 : tv < 2
 rotate_left
 ·obtain rfl : tv = 2 := by omega
  have hc : ¬ ((2 : Nat) : Int) < 2 := by omega
  simp -implicitDefEqProofs (disch := first | omega | (simp -implicitDefEqProofs only [szs, ne_eq] <;> omega) | fail) only [go_sem, seval, ↓reduceIte, ir26_l1, t8, e8, s8, v8, hR8]
  match mks, hml, hmn, hmm with
  | [m1, m0], _, hmn, hmm =>
   refine hk _ _ m0 m1 (by simp -implicitDefEqProofs (disch := first | omega | (simp -implicitDefEqProofs only [szs, ne_eq] <;> omega) | fail) only [go_sem, seval, ↓reduceIte, t6]) hgn hold (hmm m0 (by simp)).1 (hmm m1 (by simp)).1 (fun e => by simp [e] at hmn) (hmm m0 (by simp)).2 (hmm m1 (by simp)).2
 have hc : (tv : Int) < 2 := by omega
 simp -implicitDefEqProofs (disch := first | omega | (simp -implicitDefEqProofs only [szs, ne_eq] <;> omega) | fail) only [go_sem, seval, ↓reduceIte, ir26_l1, t7, t8, e8, s8, v8, hR8, hc]
 refine ⟨hW _ (by omega), ?_⟩
 obtain ⟨gA, egA, nA, cA, kA⟩ : ∃ gA, ((g.push (.cells (Blk.of [V.int .i64 0]) 3)).set g.n (.cells ((Blk.of [V.int .i64 0]).set 0 (V.int .i64 0)) 3)) = gA ∧ gA.n = g.n + 1 ∧ (∃ c, gA.get g.n = some (.cells c 3) ∧ c.size = 1 ∧ c.ro = false ∧ c.get 0 = .int .i64 0) ∧ ∀ b, b < g.n → gA.get b = g.get b := ⟨_, rfl, by simp, ⟨_, qF (by simp) rfl _, rfl, rfl, w_bset_eq rfl _⟩, fun b hb => by rw [qB (by simp) (by omega), qC (by omega)]⟩
 rw [egA]
 refine trg26 (g0 := g0) (b3 := b3) (bf := bf) (b4 := b4) (b5 := b5) (b6 := b6) (b8 := b8) (b9 := g.n) (tn := tv) (leave := leave) (v := v) (vs := vs) hb hG hR hW (by omega) (fun b hb => by rw [kA b (by omega), hold b hb]) (by omega) (by omega) ⟨c, (kA b8 hlt8).trans e8, s8, v8⟩ cA (by simp -implicitDefEqProofs (disch := first | omega | (simp -implicitDefEqProofs only [szs, ne_eq] <;> omega) | fail) only [go_sem, seval, ↓reduceIte, t4]) (by simp -implicitDefEqProofs (disch := first | omega | (simp -implicitDefEqProofs only [szs, ne_eq] <;> omega) | fail) only [go_sem, seval, ↓reduceIte, t5]) (by simp -implicitDefEqProofs (disch := first | omega | (simp -implicitDefEqProofs only [szs, ne_eq] <;> omega) | fail) only [go_sem, seval, ↓reduceIte, t6]) (by simp -implicitDefEqProofs (disch := first | omega | (simp -implicitDefEqProofs only [szs, ne_eq] <;> omega) | fail) only [go_sem, seval, ↓reduceIte, t8]) (by simp -implicitDefEqProofs (disch := first | omega | (simp -implicitDefEqProofs only [szs, ne_eq] <;> omega) | fail) only [go_sem, seval, ↓reduceIte]) (by simp -implicitDefEqProofs (disch := first | omega | (simp -implicitDefEqProofs only [szs, ne_eq] <;> omega) | fail) only [go_sem, seval, ↓reduceIte]) fun g3 m x hx hm hmd hn3 k3 hc9 => ?_
 have hold3 : ∀ b, b < g0.n → g3.get b = g0.get b := fun b hb => by rw [k3 b (by omega) (by omega), kA b (by omega), hold b hb]
 have hb3 := hb.old (by omega) hold3
 obtain ⟨⟨cr, v8', v9, vs', hrr⟩, _, _⟩ := hb3.r
 obtain ⟨x4, p4, s4, q4⟩ := hb3.c4
 obtain ⟨x5, p5, s5, q5⟩ := hb3.c5
 obtain ⟨x9, p9, s9, r9, q9⟩ := hc9
 have l1 := hrr.l1
 have l2 := hrr.l2
 have k9 := hrr.k9
 have hlen := hrr.vd.lr.lenV Try.underlying45
 rw [hrr.vl] at hlen
 have e8' := (k3 b8 (by omega) (by omega)).trans ((kA b8 hlt8).trans e8)
 have ra := hR b4
 have rb := hR rp
 have rc := hR b5
 have rd' := hR g.n
 have hWg := hW g3.n (by omega)
 have e1 : (tv : Int) + 1 = ((tv + 1 : Nat) : Int) := by omega
 have hml2 : ∀ m' ∈ m :: mks, g0.n ≤ m' ∧ g3.get m' = some (.deferred true) := fun m' hm' => by
  rcases List.mem_cons.1 hm' with rfl | hm'
  ·exact ⟨by omega, hmd⟩
  ·obtain ⟨h1, h2⟩ := hmm m' hm'
   have h3 := Heap.lt_of_get h2
   exact ⟨h1, by rw [k3 m' (by omega) (by omega), kA m' h3]; exact h2⟩
 have hmn2 : (m :: mks).Nodup := List.nodup_cons.2 ⟨fun hm' => by have := Heap.lt_of_get (hmm _ hm').2; omega, hmn⟩
 have fin : ∀ (z : Int), ∃ k', k' < k ∧ (∀ b, b < g0.n → (((g3.push (.cells (Blk.of [V.int .i64 0]) 3)).set g3.n (.cells ((Blk.of [V.int .i64 0]).set 0 (V.int .i64 z)) 3)).set g3.n (.cells (((Blk.of [V.int .i64 0]).set 0 (V.int .i64 z)).set 0 (V.int .i64 ((tv + 1 : Nat) : Int))) 3)).get b = g0.get b) ∧ g0.n ≤ g3.n + 1 ∧ ∃ tw b16 : Nat, tw + k' = 2 ∧ V.ptr (some (g3.n, 0)) = V.ptr (some (b16, 0)) ∧ g0.n ≤ b16 ∧ (∃ c, (((g3.push (.cells (Blk.of [V.int .i64 0]) 3)).set g3.n (.cells ((Blk.of [V.int .i64 0]).set 0 (V.int .i64 z)) 3)).set g3.n (.cells (((Blk.of [V.int .i64 0]).set 0 (V.int .i64 z)).set 0 (V.int .i64 ((tv + 1 : Nat) : Int))) 3)).get b16 = some (.cells c 3) ∧ c.size = 1 ∧ c.ro = false ∧ c.get 0 = V.int .i64 tw) ∧ mks.length + 1 = tw ∧ (m :: mks).Nodup ∧ ∀ m' ∈ m :: mks, g0.n ≤ m' ∧ (((g3.push (.cells (Blk.of [V.int .i64 0]) 3)).set g3.n (.cells ((Blk.of [V.int .i64 0]).set 0 (V.int .i64 z)) 3)).set g3.n (.cells (((Blk.of [V.int .i64 0]).set 0 (V.int .i64 z)).set 0 (V.int .i64 ((tv + 1 : Nat) : Int))) 3)).get m' = some (.deferred true) := fun z => by
  have q : ∀ b, b < g3.n → (((g3.push (.cells (Blk.of [V.int .i64 0]) 3)).set g3.n (.cells ((Blk.of [V.int .i64 0]).set 0 (V.int .i64 z)) 3)).set g3.n (.cells (((Blk.of [V.int .i64 0]).set 0 (V.int .i64 z)).set 0 (V.int .i64 ((tv + 1 : Nat) : Int))) 3)).get b = g3.get b := fun b hb => by
   rw [qB (by simp) (by omega), qB (by simp) (by omega), qC (by omega)]
  refine ⟨k - 1, by omega, fun b hb => by rw [q b (by omega)]; exact hold3 b hb, by omega, tv + 1, g3.n, by omega, rfl, by omega, ⟨_, qF (by simp) rfl _, rfl, rfl, w_bset_eq rfl _⟩, by omega, hmn2, fun m' hm' => ?_⟩
  obtain ⟨h1, h2⟩ := hml2 m' hm'
  exact ⟨h1, by rw [q m' (Heap.lt_of_get h2)]; exact h2⟩
 by_cases hxl : x = (G.rs.length : Int)
 ·subst hxl
  simp -implicitDefEqProofs (disch := first | omega | (simp -implicitDefEqProofs only [szs, ne_eq] <;> omega) | fail) only [go_sem, seval, ↓reduceIte, qE, t4, t5, t6, t7, t8, p9, s9, q9, p4, s4, q4, l1, l2, k9, ↓hlen, e8', s8, v8, ra, rb, rd', hR8, hWg, e1]
  refine ⟨?_, hR _, fin _⟩
  repeat' apply And.intro
  all_goals exact fun b _ h => h.elim
 ·have hx2 : tv = 0 ∧ x = leave := hx.elim (fun h => absurd h hxl) id
  obtain ⟨rfl, rfl⟩ := hx2
  have hxn : intBin .neq .i64 x (G.rs.length : Int) = some (.bool true) := by
   show some (V.bool _) = _
   simp [hxl]
  simp -implicitDefEqProofs (disch := first | omega | (simp -implicitDefEqProofs only [szs, ne_eq] <;> omega) | fail) only [go_sem, seval, ↓reduceIte, qE, t4, t5, t6, t7, t8, p9, s9, q9, p4, s4, q4, l1, l2, k9, ↓hlen, e8', s8, v8, p5, s5, q5, ra, rb, rc, rd', hR8, hWg]
  exact ⟨hR _, fin _⟩
end Go.Proofs.Ytakgjjbmniilhaa
set_option maxRecDepth 100000
set_option linter.unusedVariables false
namespace Go.Proofs.Ytakgjjbmniilhaa
open Go Go.Vm
attribute [-go_sem] qQ
variable {h g : Heap} {R W M N N' : Set'} {bd lp rd rp fr ct : Nat} {D : DS} {G : LgS}
set_option maxHeartbeats 8000000 in
theorem stands_ok {leave : Int} (hl : LgX h N lp bd fr ct G) (hr : RgX h N' rp rd fr ct G) (hG : GOk G) (hc : 16 ≤ ct ∧ ct ≤ 4096 ∧ fr ≤ 4096) (hR : ∀ b, R b) :
  SF ⟨Try.prog, true⟩ 26 [.ptr (some (lp, 0)), .ptr (some (rp, 0)), .int .i64 leave] h R W fun v g => v = .bool true ∧ h.n ≤ g.n ∧ ∀ b, b < h.n → g.get b = h.get b := by
 refine stands_head (fun tr g g1 n1 hn k1 q4 q5 q6 t0 t4 t5 t6 => ?_) hl hr hG hc hR
 have hlg : LgX g N lp bd fr ct G := hl.keep (by omega) fun k h _ => k1 k h
 have hrg : RgX g N' rp rd fr ct G := hr.keep (by omega) fun k h _ => k1 k h
 simp -implicitDefEqProofs (disch := first | omega | (simp -implicitDefEqProofs only [szs, ne_eq] <;> omega) | fail) only [go_sem, seval, ↓reduceIte, ir26_w, t0]
 refine qK.of (SF.any (M := ⟨Try.prog, true⟩) (recs_ok hlg (fun b => .inr (hR b)) hG.rl (by have := hG.fi; omega))) ?_
 rintro r g2 ⟨b3, bf, v, vs, rfl, hb3, hbf, c3, cf, hv, hvl, hve, n2, k2⟩
 have hb : StB g2 N' rp rd fr ct G b3 bf h.n (h.n + 1) leave v vs := ⟨hrg.keep n2 fun k h _ => k2 k h, c3, cf, ⟨_, (k2 _ (by omega)).trans q4, rfl, rfl⟩, ⟨_, (k2 _ (by omega)).trans q5, rfl, rfl⟩, hv.mono fun _ _ _ => trivial, hvl, fun i l hi => (hve i l hi).mono fun _ _ _ => trivial⟩
 have q6' := (k2 _ (by omega)).trans q6
 simp -implicitDefEqProofs (disch := first | omega | (simp -implicitDefEqProofs only [szs, ne_eq] <;> omega) | fail) only [go_sem, seval, ↓reduceIte, qE]
 refine ⟨.inl (by omega), ?_⟩
 refine st_turns (g0 := g2) (b3 := b3) (bf := bf) (b4 := h.n) (b5 := h.n + 1) (b6 := h.n + 2) (b8 := g2.n) (leave := leave) (v := v) (vs := vs) hb hG (fun b => .inr (hR b)) (fun b hb => .inl (by omega)) (fun tr2 g3 m0 m1 u6 n3 k3 hm0 hm1 hne d0 d1 => ?_) (fun b hb => by rw [qB (by simp) (by omega), qC (by omega)]) (by simp) (Nat.le_refl _) ⟨_, qF (by simp) rfl _, rfl, rfl, w_bset_eq rfl _⟩ (by simp -implicitDefEqProofs (disch := first | omega | (simp -implicitDefEqProofs only [szs, ne_eq] <;> omega) | fail) only [go_sem, seval, ↓reduceIte, t4]) (by simp -implicitDefEqProofs (disch := first | omega | (simp -implicitDefEqProofs only [szs, ne_eq] <;> omega) | fail) only [go_sem, seval, ↓reduceIte, t5]) (by simp -implicitDefEqProofs (disch := first | omega | (simp -implicitDefEqProofs only [szs, ne_eq] <;> omega) | fail) only [go_sem, seval, ↓reduceIte, t6]) (by simp -implicitDefEqProofs (disch := first | omega | (simp -implicitDefEqProofs only [szs, ne_eq] <;> omega) | fail) only [go_sem, seval, ↓reduceIte]) (by simp -implicitDefEqProofs (disch := first | omega | (simp -implicitDefEqProofs only [szs, ne_eq] <;> omega) | fail) only [go_sem, seval, ↓reduceIte])
 have e6 := (k3 (h.n + 2) (by omega)).trans q6'
 have l6 := Heap.lt_of_get e6
 have l0 := Heap.lt_of_get d0
 have l1 := Heap.lt_of_get d1
 simp -implicitDefEqProofs (disch := first | omega | (simp -implicitDefEqProofs only [szs, ne_eq] <;> omega) | fail) only [go_sem, seval, ↓reduceIte, u6, e6, takeH, d0, d1]
 refine ⟨.inl (by omega), .inl (by omega), by omega, fun b hb => ?_⟩
 rw [qB (by simp only [Heap.n_set]; omega) (by omega), qB (by simp only [Heap.n_set]; omega) (by omega), qB l6 (by omega), k3 b (by omega), k2 b (by omega), k1 b hb]
end Go.Proofs.Ytakgjjbmniilhaa
