/- Extents' laws: steps. -/
import Derived.Test.YthdkhbhicimpdaaXX
import Derived.Test.YthdkhbhicimpdaaKn
import Derived.Test.YthdkhbhicimpdaaVmOpen
set_option maxRecDepth 100000
set_option linter.unusedVariables false
set_option linter.unusedSimpArgs false
namespace Go.Vm
theorem w_andOne (n : Int) : ∃ w : Nat, w < 2 ∧ intBin .and .i64 n 1 = some (.int .i64 (w : Int)) := by
  refine ⟨(BitVec.ofInt 64 n &&& BitVec.ofInt 64 1).toNat, ?_, ?_⟩
  · rw [BitVec.toNat_and, show (BitVec.ofInt 64 1).toNat = 1 from rfl]
    exact Nat.lt_of_le_of_lt Nat.and_le_right (by omega)
  · have h : (BitVec.ofInt 64 n &&& BitVec.ofInt 64 1).toNat ≤ 1 := by
      rw [BitVec.toNat_and, show (BitVec.ofInt 64 1).toNat = 1 from rfl]
      exact Nat.and_le_right
    show some (V.int .i64 (IntKind.i64.wrap ((BitVec.ofInt 64 n &&& BitVec.ofInt 64 1).toNat : Int))) = _
    rw [IntWalk.i64_in _ (by omega)]
end Go.Vm
namespace Go.Proofs.Ythdkhbhicimpdaa
open Go Go.Vm
attribute [-go_sem] sz_113
theorem known_ok (h : Heap) (R W : Set') : SF Try.prog 9 [] h R W fun v h' => v = .bool true ∧ h' = h := SF.closedH hm noHook_ok known_run h R W
def KeepV (h : Heap) (R : Set') (v : V) (m : Nat) (ks kw : Nat → Int) : Prop := m ≤ 9223372036854775807 ∧ ((m = 0 ∧ (v = .slice none 0 0 true ∨ ∃ a, v = .esl a)) ∨ ∃ b o cap ex c ce, v = .slice (some (b, o)) m cap ex ∧ R b ∧ h.get b = some (.cells c ce) ∧ o + m * 2 ≤ c.size ∧ ∀ i, i < m → c.get (o + i * 2) = .int .i64 (ks i) ∧ c.get (o + i * 2 + 1) = .int .i64 (kw i))
theorem KeepV.old {h h' : Heap} {R : Set'} {v : V} {m : Nat} {ks kw : Nat → Int} (hv : KeepV h R v m ks kw) (hk : ∀ b, b < h.n → h'.get b = h.get b) : KeepV h' R v m ks kw := by
  refine ⟨hv.1, hv.2.imp id ?_⟩
  rintro ⟨b, o, cap, ex, c, ce, e, hR, hb, hs⟩
  exact ⟨b, o, cap, ex, c, ce, e, hR, by rw [hk _ (Heap.lt_of_get hb)]; exact hb, hs⟩
theorem KeepV.len {h : Heap} {R : Set'} {v : V} {m : Nat} {ks kw : Nat → Int} (hv : KeepV h R v m ks kw) (g : Heap) : lenV Try.prog 46 v g = some (m, []) := by
  rcases hv.2 with ⟨rfl, rfl | ⟨a, rfl⟩⟩ | ⟨b, o, cap, ex, c, ce, rfl, _⟩ <;> simp [lenV, Try.underlying46]
theorem KeepV.one {h : Heap} {R : Set'} {v : V} {m : Nat} {ks kw : Nat → Int} (hv : KeepV h R v m ks kw) : v.one = true := by
  rcases hv.2 with ⟨_, rfl | ⟨a, rfl⟩⟩ | ⟨b, o, cap, ex, c, ce, rfl, _⟩ <;> rfl
def i64B (n : Int) : Prop := -9223372036854775808 ≤ n ∧ n ≤ 9223372036854775807
/-- What a step's two slices are. -/
structure StepIs (h : Heap) (n1 n2 n3 : Int) (d kv : V) : Prop where
  d : ∃ l, BytesV h (fun _ => True) d l
  k : ∃ mk ks kw, KeepV h (fun _ => True) kv mk ks kw
  b : i64B n1 ∧ i64B n2 ∧ i64B n3
theorem StepIs.old {h h' : Heap} {n1 n2 n3 : Int} {d kv : V} (hs : StepIs h n1 n2 n3 d kv) (hk : ∀ b, b < h.n → h'.get b = h.get b) : StepIs h' n1 n2 n3 d kv := by
  obtain ⟨⟨l, hd⟩, ⟨mk, ks, kw, hkv⟩, hb⟩ := hs
  exact ⟨⟨l, hd.old hk⟩, ⟨mk, ks, kw, hkv.old hk⟩, hb⟩
/-- A slice of steps. -/
structure StepsV (h : Heap) (v : V) (m : Nat) : Prop where
  len : m ≤ 9223372036854775807
  at' : (m = 0 ∧ (v = .slice none 0 0 true ∨ ∃ a, v = .esl a)) ∨ ∃ b o cap c ce, v = .slice (some (b, o)) m cap true ∧ h.get b = some (.cells c ce) ∧ o + m * 6 ≤ c.size ∧ ∀ i, i < m → ∃ kd n1 n2 n3 d kv, c.get (o + i * 6) = .int .i64 kd ∧ c.get (o + i * 6 + 1) = .int .i64 n1 ∧ c.get (o + i * 6 + 2) = .int .i64 n2 ∧ c.get (o + i * 6 + 3) = .int .i64 n3 ∧ c.get (o + i * 6 + 4) = d ∧ c.get (o + i * 6 + 5) = kv ∧ StepIs h n1 n2 n3 d kv
theorem StepsV.old {h h' : Heap} {v : V} {m : Nat} (hv : StepsV h v m) (hk : ∀ b, b < h.n → h'.get b = h.get b) : StepsV h' v m := by
  refine ⟨hv.len, hv.at'.imp id ?_⟩
  rintro ⟨b, o, cap, c, ce, e, hb, hs, hc⟩
  refine ⟨b, o, cap, c, ce, e, by rw [hk _ (Heap.lt_of_get hb)]; exact hb, hs, fun i hi => ?_⟩
  obtain ⟨kd, n1, n2, n3, d, kv, e0, e1, e2, e3, e4, e5, e6⟩ := hc i hi
  exact ⟨kd, n1, n2, n3, d, kv, e0, e1, e2, e3, e4, e5, e6.old hk⟩
theorem StepsV.lenV {h : Heap} {v : V} {m : Nat} (hv : StepsV h v m) (g : Heap) : lenV Try.prog 36 v g = some (m, []) := by
  rcases hv.at' with ⟨rfl, rfl | ⟨a, rfl⟩⟩ | ⟨b, o, cap, c, ce, rfl, _⟩ <;> simp [Vm.lenV, Try.underlying36]
theorem much_loop {h : Heap} {R W : Set'} {Q : Ex → Fr → Heap → Prop} {t : List It} {n : Int} {q v : V} {m : Nat} (hv : StepsV h v m) (hR : ∀ b, R b)
    (hk : ∀ tr s, s ≤ 1080000 → tr.get 0 = some (.int .i64 n) → tr.get 1 = some q → tr.get 7 = some (.int .i64 (s : Nat)) → resume (Try.prog : MP) R W none Q t (.exit 0) ⟨⟨51, tr⟩, []⟩ h)
    {tr : Tr V} (t0 : tr.get 0 = some (.int .i64 n)) (t1 : tr.get 1 = some q) (t2 : tr.get 2 = some v) (t7 : tr.get 7 = some (.int .i64 0)) (t8 : tr.get 8 = some (.int .i64 0)) : GLoop (Try.prog : MP) R W none Q ir8_l0 t ⟨⟨51, tr⟩, []⟩ h := by
  have hlen := hv.lenV
  refine GLoop.inv hm (fun k f g => g = h ∧ f.mks = [] ∧ f.tm.n = 51 ∧ f.tm.get 0 = some (.int .i64 n) ∧ f.tm.get 1 = some q ∧ f.tm.get 2 = some v ∧ ∃ j s : Nat, j + k = m ∧ s ≤ j * 18000 ∧ j ≤ 60 ∧ f.tm.get 8 = some (.int .i64 j) ∧ f.tm.get 7 = some (.int .i64 s)) m ?_ ?_
  · exact ⟨rfl, rfl, rfl, by simp -implicitDefEqProofs (disch := (first | omega | (simp -implicitDefEqProofs only [Heap.n_push, Heap.n_set, Blk.size_set, Blk.size_puts, Blk.size_putA, w_of_size, w_rep_size, List.length_cons, List.length_nil, ne_eq] <;> omega) | fail)) only [go_sem, Nat.reduceAdd, Nat.reduceSub, Nat.reduceMul, Nat.reduceLT, Nat.reduceMod, Nat.reduceDiv, Nat.reduceEqDiff, Nat.reduceBEq, Nat.reduceLeDiff, ↓reduceIte, reduceCtorEq, Int.reduceAdd, Int.reduceSub, Int.reduceLT, Int.reduceLE, Int.reduceBEq, Int.reduceEq, Int.reduceToNat, t0], by simp -implicitDefEqProofs (disch := (first | omega | (simp -implicitDefEqProofs only [Heap.n_push, Heap.n_set, Blk.size_set, Blk.size_puts, Blk.size_putA, w_of_size, w_rep_size, List.length_cons, List.length_nil, ne_eq] <;> omega) | fail)) only [go_sem, Nat.reduceAdd, Nat.reduceSub, Nat.reduceMul, Nat.reduceLT, Nat.reduceMod, Nat.reduceDiv, Nat.reduceEqDiff, Nat.reduceBEq, Nat.reduceLeDiff, ↓reduceIte, reduceCtorEq, Int.reduceAdd, Int.reduceSub, Int.reduceLT, Int.reduceLE, Int.reduceBEq, Int.reduceEq, Int.reduceToNat, t1], by simp -implicitDefEqProofs (disch := (first | omega | (simp -implicitDefEqProofs only [Heap.n_push, Heap.n_set, Blk.size_set, Blk.size_puts, Blk.size_putA, w_of_size, w_rep_size, List.length_cons, List.length_nil, ne_eq] <;> omega) | fail)) only [go_sem, Nat.reduceAdd, Nat.reduceSub, Nat.reduceMul, Nat.reduceLT, Nat.reduceMod, Nat.reduceDiv, Nat.reduceEqDiff, Nat.reduceBEq, Nat.reduceLeDiff, ↓reduceIte, reduceCtorEq, Int.reduceAdd, Int.reduceSub, Int.reduceLT, Int.reduceLE, Int.reduceBEq, Int.reduceEq, Int.reduceToNat, t2], 0, 0, by omega, by omega, by omega, by simp -implicitDefEqProofs (disch := (first | omega | (simp -implicitDefEqProofs only [Heap.n_push, Heap.n_set, Blk.size_set, Blk.size_puts, Blk.size_putA, w_of_size, w_rep_size, List.length_cons, List.length_nil, ne_eq] <;> omega) | fail)) only [go_sem, Nat.reduceAdd, Nat.reduceSub, Nat.reduceMul, Nat.reduceLT, Nat.reduceMod, Nat.reduceDiv, Nat.reduceEqDiff, Nat.reduceBEq, Nat.reduceLeDiff, ↓reduceIte, reduceCtorEq, Int.reduceAdd, Int.reduceSub, Int.reduceLT, Int.reduceLE, Int.reduceBEq, Int.reduceEq, Int.reduceToNat, t8]; rfl, by simp -implicitDefEqProofs (disch := (first | omega | (simp -implicitDefEqProofs only [Heap.n_push, Heap.n_set, Blk.size_set, Blk.size_puts, Blk.size_putA, w_of_size, w_rep_size, List.length_cons, List.length_nil, ne_eq] <;> omega) | fail)) only [go_sem, Nat.reduceAdd, Nat.reduceSub, Nat.reduceMul, Nat.reduceLT, Nat.reduceMod, Nat.reduceDiv, Nat.reduceEqDiff, Nat.reduceBEq, Nat.reduceLeDiff, ↓reduceIte, reduceCtorEq, Int.reduceAdd, Int.reduceSub, Int.reduceLT, Int.reduceLE, Int.reduceBEq, Int.reduceEq, Int.reduceToNat, t7]; rfl⟩
  clear t0 t1 t2 t7 t8
  clear tr
  rintro k ⟨⟨n', tr⟩, mks⟩ g ⟨rfl, hmk, hn', t0, t1, t2, j, s, hj, hn, hj6, t8, t7⟩
  simp only [Tm.get_mk] at hmk hn' t0 t1 t2 t8 t7
  subst hmk hn'
  by_cases hjm : j < m
  · by_cases hj60 : j < 60
    · rcases hv.at' with ⟨h0, _⟩ | ⟨b, o, cap, c, ce, rfl, hb, hsz, hc⟩
      · omega
      obtain ⟨kd, n1, n2, n3, d, kv, c0, c1, c2, c3, c4, c5, ⟨⟨l, hd⟩, ⟨mk, ks, kw, hk⟩, _⟩⟩ := hc j hjm
      have hl1 := hd.lenV
      have hl2 := hk.len
      have hRb := hR b
      have hll := hd.1
      have hkl := hk.1
      simp -implicitDefEqProofs (disch := (first | omega | (simp -implicitDefEqProofs only [Heap.n_push, Heap.n_set, Blk.size_set, Blk.size_puts, Blk.size_putA, w_of_size, w_rep_size, List.length_cons, List.length_nil, ne_eq] <;> omega) | fail)) only [go_sem, Nat.reduceAdd, Nat.reduceSub, Nat.reduceMul, Nat.reduceLT, Nat.reduceMod, Nat.reduceDiv, Nat.reduceEqDiff, Nat.reduceBEq, Nat.reduceLeDiff, ↓reduceIte, reduceCtorEq, Int.reduceAdd, Int.reduceSub, Int.reduceLT, Int.reduceLE, Int.reduceBEq, Int.reduceEq, Int.reduceToNat, ir8_l0, t0, t1, t2, t7, t8, ↓hlen, hb, c4, c5, ↓hl1, ↓hl2, hRb, undefV]
      refine ⟨k - 1, by omega, j + 1, s + min l.length 9000 + min mk 9000, by omega, by omega, by omega, by simp, ?_⟩
      congr 1
      split <;> split <;> omega
    · simp -implicitDefEqProofs (disch := (first | omega | (simp -implicitDefEqProofs only [Heap.n_push, Heap.n_set, Blk.size_set, Blk.size_puts, Blk.size_putA, w_of_size, w_rep_size, List.length_cons, List.length_nil, ne_eq] <;> omega) | fail)) only [go_sem, Nat.reduceAdd, Nat.reduceSub, Nat.reduceMul, Nat.reduceLT, Nat.reduceMod, Nat.reduceDiv, Nat.reduceEqDiff, Nat.reduceBEq, Nat.reduceLeDiff, ↓reduceIte, reduceCtorEq, Int.reduceAdd, Int.reduceSub, Int.reduceLT, Int.reduceLE, Int.reduceBEq, Int.reduceEq, Int.reduceToNat, ir8_l0, t0, t1, t2, t7, t8, ↓hlen, undefV]
      exact hk _ s (by omega) (by simp -implicitDefEqProofs (disch := (first | omega | (simp -implicitDefEqProofs only [Heap.n_push, Heap.n_set, Blk.size_set, Blk.size_puts, Blk.size_putA, w_of_size, w_rep_size, List.length_cons, List.length_nil, ne_eq] <;> omega) | fail)) only [go_sem, Nat.reduceAdd, Nat.reduceSub, Nat.reduceMul, Nat.reduceLT, Nat.reduceMod, Nat.reduceDiv, Nat.reduceEqDiff, Nat.reduceBEq, Nat.reduceLeDiff, ↓reduceIte, reduceCtorEq, Int.reduceAdd, Int.reduceSub, Int.reduceLT, Int.reduceLE, Int.reduceBEq, Int.reduceEq, Int.reduceToNat, t0]) (by simp -implicitDefEqProofs (disch := (first | omega | (simp -implicitDefEqProofs only [Heap.n_push, Heap.n_set, Blk.size_set, Blk.size_puts, Blk.size_putA, w_of_size, w_rep_size, List.length_cons, List.length_nil, ne_eq] <;> omega) | fail)) only [go_sem, Nat.reduceAdd, Nat.reduceSub, Nat.reduceMul, Nat.reduceLT, Nat.reduceMod, Nat.reduceDiv, Nat.reduceEqDiff, Nat.reduceBEq, Nat.reduceLeDiff, ↓reduceIte, reduceCtorEq, Int.reduceAdd, Int.reduceSub, Int.reduceLT, Int.reduceLE, Int.reduceBEq, Int.reduceEq, Int.reduceToNat, t1]) (by simp -implicitDefEqProofs (disch := (first | omega | (simp -implicitDefEqProofs only [Heap.n_push, Heap.n_set, Blk.size_set, Blk.size_puts, Blk.size_putA, w_of_size, w_rep_size, List.length_cons, List.length_nil, ne_eq] <;> omega) | fail)) only [go_sem, Nat.reduceAdd, Nat.reduceSub, Nat.reduceMul, Nat.reduceLT, Nat.reduceMod, Nat.reduceDiv, Nat.reduceEqDiff, Nat.reduceBEq, Nat.reduceLeDiff, ↓reduceIte, reduceCtorEq, Int.reduceAdd, Int.reduceSub, Int.reduceLT, Int.reduceLE, Int.reduceBEq, Int.reduceEq, Int.reduceToNat, t7])
  · simp -implicitDefEqProofs (disch := (first | omega | (simp -implicitDefEqProofs only [Heap.n_push, Heap.n_set, Blk.size_set, Blk.size_puts, Blk.size_putA, w_of_size, w_rep_size, List.length_cons, List.length_nil, ne_eq] <;> omega) | fail)) only [go_sem, Nat.reduceAdd, Nat.reduceSub, Nat.reduceMul, Nat.reduceLT, Nat.reduceMod, Nat.reduceDiv, Nat.reduceEqDiff, Nat.reduceBEq, Nat.reduceLeDiff, ↓reduceIte, reduceCtorEq, Int.reduceAdd, Int.reduceSub, Int.reduceLT, Int.reduceLE, Int.reduceBEq, Int.reduceEq, Int.reduceToNat, ir8_l0, t0, t1, t2, t7, t8, ↓hlen, undefV]
    exact hk _ s (by omega) (by simp -implicitDefEqProofs (disch := (first | omega | (simp -implicitDefEqProofs only [Heap.n_push, Heap.n_set, Blk.size_set, Blk.size_puts, Blk.size_putA, w_of_size, w_rep_size, List.length_cons, List.length_nil, ne_eq] <;> omega) | fail)) only [go_sem, Nat.reduceAdd, Nat.reduceSub, Nat.reduceMul, Nat.reduceLT, Nat.reduceMod, Nat.reduceDiv, Nat.reduceEqDiff, Nat.reduceBEq, Nat.reduceLeDiff, ↓reduceIte, reduceCtorEq, Int.reduceAdd, Int.reduceSub, Int.reduceLT, Int.reduceLE, Int.reduceBEq, Int.reduceEq, Int.reduceToNat, t0]) (by simp -implicitDefEqProofs (disch := (first | omega | (simp -implicitDefEqProofs only [Heap.n_push, Heap.n_set, Blk.size_set, Blk.size_puts, Blk.size_putA, w_of_size, w_rep_size, List.length_cons, List.length_nil, ne_eq] <;> omega) | fail)) only [go_sem, Nat.reduceAdd, Nat.reduceSub, Nat.reduceMul, Nat.reduceLT, Nat.reduceMod, Nat.reduceDiv, Nat.reduceEqDiff, Nat.reduceBEq, Nat.reduceLeDiff, ↓reduceIte, reduceCtorEq, Int.reduceAdd, Int.reduceSub, Int.reduceLT, Int.reduceLE, Int.reduceBEq, Int.reduceEq, Int.reduceToNat, t1]) (by simp -implicitDefEqProofs (disch := (first | omega | (simp -implicitDefEqProofs only [Heap.n_push, Heap.n_set, Blk.size_set, Blk.size_puts, Blk.size_putA, w_of_size, w_rep_size, List.length_cons, List.length_nil, ne_eq] <;> omega) | fail)) only [go_sem, Nat.reduceAdd, Nat.reduceSub, Nat.reduceMul, Nat.reduceLT, Nat.reduceMod, Nat.reduceDiv, Nat.reduceEqDiff, Nat.reduceBEq, Nat.reduceLeDiff, ↓reduceIte, reduceCtorEq, Int.reduceAdd, Int.reduceSub, Int.reduceLT, Int.reduceLE, Int.reduceBEq, Int.reduceEq, Int.reduceToNat, t7])
theorem much_ok {h : Heap} {R W : Set'} {n : Int} {q v : V} {mq m : Nat} (hq : ∀ g, Vm.lenV Try.prog 22 q g = some (mq, [])) (hmq : mq ≤ 9223372036854775807) (hv : StepsV h v m) (hR : ∀ b, R b) : SF Try.prog 8 [.int .i64 n, q, v] h R W fun r h' => (∃ b, r = .bool b ∧ (b = false → ¬ (64 < n ∧ n ≤ 4096) ∧ mq ≤ 20)) ∧ h' = h := by
  refine SF.go hm Try.func8 ir8_eq ?_
  simp -implicitDefEqProofs (disch := (first | omega | (simp -implicitDefEqProofs only [Heap.n_push, Heap.n_set, Blk.size_set, Blk.size_puts, Blk.size_putA, w_of_size, w_rep_size, List.length_cons, List.length_nil, ne_eq] <;> omega) | fail)) only [go_sem, Nat.reduceAdd, Nat.reduceSub, Nat.reduceMul, Nat.reduceLT, Nat.reduceMod, Nat.reduceDiv, Nat.reduceEqDiff, Nat.reduceBEq, Nat.reduceLeDiff, ↓reduceIte, reduceCtorEq, Int.reduceAdd, Int.reduceSub, Int.reduceLT, Int.reduceLE, Int.reduceBEq, Int.reduceEq, Int.reduceToNat, ir8]
  refine much_loop (n := n) (q := q) hv (fun b => .inr (hR b)) ?_ (by simp -implicitDefEqProofs (disch := (first | omega | (simp -implicitDefEqProofs only [Heap.n_push, Heap.n_set, Blk.size_set, Blk.size_puts, Blk.size_putA, w_of_size, w_rep_size, List.length_cons, List.length_nil, ne_eq] <;> omega) | fail)) only [go_sem, Nat.reduceAdd, Nat.reduceSub, Nat.reduceMul, Nat.reduceLT, Nat.reduceMod, Nat.reduceDiv, Nat.reduceEqDiff, Nat.reduceBEq, Nat.reduceLeDiff, ↓reduceIte, reduceCtorEq, Int.reduceAdd, Int.reduceSub, Int.reduceLT, Int.reduceLE, Int.reduceBEq, Int.reduceEq, Int.reduceToNat]) (by simp -implicitDefEqProofs (disch := (first | omega | (simp -implicitDefEqProofs only [Heap.n_push, Heap.n_set, Blk.size_set, Blk.size_puts, Blk.size_putA, w_of_size, w_rep_size, List.length_cons, List.length_nil, ne_eq] <;> omega) | fail)) only [go_sem, Nat.reduceAdd, Nat.reduceSub, Nat.reduceMul, Nat.reduceLT, Nat.reduceMod, Nat.reduceDiv, Nat.reduceEqDiff, Nat.reduceBEq, Nat.reduceLeDiff, ↓reduceIte, reduceCtorEq, Int.reduceAdd, Int.reduceSub, Int.reduceLT, Int.reduceLE, Int.reduceBEq, Int.reduceEq, Int.reduceToNat]) (by simp -implicitDefEqProofs (disch := (first | omega | (simp -implicitDefEqProofs only [Heap.n_push, Heap.n_set, Blk.size_set, Blk.size_puts, Blk.size_putA, w_of_size, w_rep_size, List.length_cons, List.length_nil, ne_eq] <;> omega) | fail)) only [go_sem, Nat.reduceAdd, Nat.reduceSub, Nat.reduceMul, Nat.reduceLT, Nat.reduceMod, Nat.reduceDiv, Nat.reduceEqDiff, Nat.reduceBEq, Nat.reduceLeDiff, ↓reduceIte, reduceCtorEq, Int.reduceAdd, Int.reduceSub, Int.reduceLT, Int.reduceLE, Int.reduceBEq, Int.reduceEq, Int.reduceToNat]) (by simp -implicitDefEqProofs (disch := (first | omega | (simp -implicitDefEqProofs only [Heap.n_push, Heap.n_set, Blk.size_set, Blk.size_puts, Blk.size_putA, w_of_size, w_rep_size, List.length_cons, List.length_nil, ne_eq] <;> omega) | fail)) only [go_sem, Nat.reduceAdd, Nat.reduceSub, Nat.reduceMul, Nat.reduceLT, Nat.reduceMod, Nat.reduceDiv, Nat.reduceEqDiff, Nat.reduceBEq, Nat.reduceLeDiff, ↓reduceIte, reduceCtorEq, Int.reduceAdd, Int.reduceSub, Int.reduceLT, Int.reduceLE, Int.reduceBEq, Int.reduceEq, Int.reduceToNat]) (by simp -implicitDefEqProofs (disch := (first | omega | (simp -implicitDefEqProofs only [Heap.n_push, Heap.n_set, Blk.size_set, Blk.size_puts, Blk.size_putA, w_of_size, w_rep_size, List.length_cons, List.length_nil, ne_eq] <;> omega) | fail)) only [go_sem, Nat.reduceAdd, Nat.reduceSub, Nat.reduceMul, Nat.reduceLT, Nat.reduceMod, Nat.reduceDiv, Nat.reduceEqDiff, Nat.reduceBEq, Nat.reduceLeDiff, ↓reduceIte, reduceCtorEq, Int.reduceAdd, Int.reduceSub, Int.reduceLT, Int.reduceLE, Int.reduceBEq, Int.reduceEq, Int.reduceToNat])
  intro tr s hs t0 t1 t7
  by_cases hA : 64 < n ∧ n ≤ 4096
  · simp -implicitDefEqProofs (disch := (first | omega | (simp -implicitDefEqProofs only [Heap.n_push, Heap.n_set, Blk.size_set, Blk.size_puts, Blk.size_putA, w_of_size, w_rep_size, List.length_cons, List.length_nil, ne_eq] <;> omega) | fail)) only [go_sem, Nat.reduceAdd, Nat.reduceSub, Nat.reduceMul, Nat.reduceLT, Nat.reduceMod, Nat.reduceDiv, Nat.reduceEqDiff, Nat.reduceBEq, Nat.reduceLeDiff, ↓reduceIte, reduceCtorEq, Int.reduceAdd, Int.reduceSub, Int.reduceLT, Int.reduceLE, Int.reduceBEq, Int.reduceEq, Int.reduceToNat, t0, t1, t7, undefV]
    exact ⟨true, rfl, fun h => by cases h⟩
  · by_cases hC : 20 < mq
    · by_cases hB : 64 < n
      · simp -implicitDefEqProofs (disch := (first | omega | (simp -implicitDefEqProofs only [Heap.n_push, Heap.n_set, Blk.size_set, Blk.size_puts, Blk.size_putA, w_of_size, w_rep_size, List.length_cons, List.length_nil, ne_eq] <;> omega) | fail)) only [go_sem, Nat.reduceAdd, Nat.reduceSub, Nat.reduceMul, Nat.reduceLT, Nat.reduceMod, Nat.reduceDiv, Nat.reduceEqDiff, Nat.reduceBEq, Nat.reduceLeDiff, ↓reduceIte, reduceCtorEq, Int.reduceAdd, Int.reduceSub, Int.reduceLT, Int.reduceLE, Int.reduceBEq, Int.reduceEq, Int.reduceToNat, t0, t1, t7, ↓hq, undefV]
        exact ⟨true, rfl, fun h => by cases h⟩
      · simp -implicitDefEqProofs (disch := (first | omega | (simp -implicitDefEqProofs only [Heap.n_push, Heap.n_set, Blk.size_set, Blk.size_puts, Blk.size_putA, w_of_size, w_rep_size, List.length_cons, List.length_nil, ne_eq] <;> omega) | fail)) only [go_sem, Nat.reduceAdd, Nat.reduceSub, Nat.reduceMul, Nat.reduceLT, Nat.reduceMod, Nat.reduceDiv, Nat.reduceEqDiff, Nat.reduceBEq, Nat.reduceLeDiff, ↓reduceIte, reduceCtorEq, Int.reduceAdd, Int.reduceSub, Int.reduceLT, Int.reduceLE, Int.reduceBEq, Int.reduceEq, Int.reduceToNat, t0, t1, t7, ↓hq, undefV]
        exact ⟨true, rfl, fun h => by cases h⟩
    · by_cases hB : 64 < n
      · simp -implicitDefEqProofs (disch := (first | omega | (simp -implicitDefEqProofs only [Heap.n_push, Heap.n_set, Blk.size_set, Blk.size_puts, Blk.size_putA, w_of_size, w_rep_size, List.length_cons, List.length_nil, ne_eq] <;> omega) | fail)) only [go_sem, Nat.reduceAdd, Nat.reduceSub, Nat.reduceMul, Nat.reduceLT, Nat.reduceMod, Nat.reduceDiv, Nat.reduceEqDiff, Nat.reduceBEq, Nat.reduceLeDiff, ↓reduceIte, reduceCtorEq, Int.reduceAdd, Int.reduceSub, Int.reduceLT, Int.reduceLE, Int.reduceBEq, Int.reduceEq, Int.reduceToNat, t0, t1, t7, ↓hq, undefV]
        exact ⟨_, rfl, fun _ => ⟨fun h => by omega, by omega⟩⟩
      · simp -implicitDefEqProofs (disch := (first | omega | (simp -implicitDefEqProofs only [Heap.n_push, Heap.n_set, Blk.size_set, Blk.size_puts, Blk.size_putA, w_of_size, w_rep_size, List.length_cons, List.length_nil, ne_eq] <;> omega) | fail)) only [go_sem, Nat.reduceAdd, Nat.reduceSub, Nat.reduceMul, Nat.reduceLT, Nat.reduceMod, Nat.reduceDiv, Nat.reduceEqDiff, Nat.reduceBEq, Nat.reduceLeDiff, ↓reduceIte, reduceCtorEq, Int.reduceAdd, Int.reduceSub, Int.reduceLT, Int.reduceLE, Int.reduceBEq, Int.reduceEq, Int.reduceToNat, t0, t1, t7, ↓hq, undefV]
        exact ⟨_, rfl, fun _ => ⟨fun h => by omega, by omega⟩⟩
/-- The step's own place. -/
theorem stX (h : Heap) (kd n1 n2 n3 : Int) (d kv : V) : ∃ h2, ((h.push (O.cells (Blk.of [V.int IntKind.i64 0, V.int IntKind.i64 0, V.int IntKind.i64 0, V.int IntKind.i64 0, V.slice none 0 0 true, V.slice none 0 0 true]) 48)).set h.n
      (O.cells (((((((Blk.of [V.int IntKind.i64 0, V.int IntKind.i64 0, V.int IntKind.i64 0, V.int IntKind.i64 0, V.slice none 0 0 true, V.slice none 0 0 true]).set 0 (V.int IntKind.i64 kd)).set 1 (V.int IntKind.i64 n1)).set 2 (V.int IntKind.i64 n2)).set 3 (V.int IntKind.i64 n3)).set 4 d).set 5 kv) 48)) = h2 ∧ h2.n = h.n + 1 ∧
      (∃ s, h2.get h.n = some (.cells s 48) ∧ s.size = 6 ∧ s.get 0 = .int .i64 kd ∧ s.get 1 = .int .i64 n1 ∧ s.get 2 = .int .i64 n2 ∧ s.get 3 = .int .i64 n3 ∧ s.get 4 = d ∧ s.get 5 = kv) ∧ ∀ b, b < h.n → h2.get b = h.get b := by
  refine ⟨_, rfl, by simp, ⟨(((((((Blk.of [V.int IntKind.i64 0, V.int IntKind.i64 0, V.int IntKind.i64 0, V.int IntKind.i64 0, V.slice none 0 0 true, V.slice none 0 0 true]).set 0 (V.int IntKind.i64 kd)).set 1 (V.int IntKind.i64 n1)).set 2 (V.int IntKind.i64 n2)).set 3 (V.int IntKind.i64 n3)).set 4 d).set 5 kv), by simp -implicitDefEqProofs (disch := (first | omega | (simp -implicitDefEqProofs only [Heap.n_push, Heap.n_set, Blk.size_set, Blk.size_puts, Blk.size_putA, w_of_size, w_rep_size, List.length_cons, List.length_nil, ne_eq] <;> omega) | fail)) only [go_sem, Nat.reduceAdd, Nat.reduceSub, Nat.reduceMul, Nat.reduceLT, Nat.reduceMod, Nat.reduceDiv, Nat.reduceEqDiff, Nat.reduceBEq, Nat.reduceLeDiff, ↓reduceIte, reduceCtorEq, Int.reduceAdd, Int.reduceSub, Int.reduceLT, Int.reduceLE, Int.reduceBEq, Int.reduceEq, Int.reduceToNat], rfl, ?_, ?_, ?_, ?_, ?_, ?_⟩, fun b hb => by simp -implicitDefEqProofs (disch := (first | omega | (simp -implicitDefEqProofs only [Heap.n_push, Heap.n_set, Blk.size_set, Blk.size_puts, Blk.size_putA, w_of_size, w_rep_size, List.length_cons, List.length_nil, ne_eq] <;> omega) | fail)) only [go_sem, Nat.reduceAdd, Nat.reduceSub, Nat.reduceMul, Nat.reduceLT, Nat.reduceMod, Nat.reduceDiv, Nat.reduceEqDiff, Nat.reduceBEq, Nat.reduceLeDiff, ↓reduceIte, reduceCtorEq, Int.reduceAdd, Int.reduceSub, Int.reduceLT, Int.reduceLE, Int.reduceBEq, Int.reduceEq, Int.reduceToNat]⟩ <;> simp -implicitDefEqProofs (disch := (first | omega | (simp -implicitDefEqProofs only [Heap.n_push, Heap.n_set, Blk.size_set, Blk.size_puts, Blk.size_putA, w_of_size, w_rep_size, List.length_cons, List.length_nil, ne_eq] <;> omega) | fail)) only [go_sem, Nat.reduceAdd, Nat.reduceSub, Nat.reduceMul, Nat.reduceLT, Nat.reduceMod, Nat.reduceDiv, Nat.reduceEqDiff, Nat.reduceBEq, Nat.reduceLeDiff, ↓reduceIte, reduceCtorEq, Int.reduceAdd, Int.reduceSub, Int.reduceLT, Int.reduceLE, Int.reduceBEq, Int.reduceEq, Int.reduceToNat]
end Go.Proofs.Ythdkhbhicimpdaa
set_option maxRecDepth 100000
set_option linter.unusedVariables false
namespace Go.Proofs.Ythdkhbhicimpdaa
open Go Go.Vm
attribute [-go_sem] sz_113
structure Shape (u : UU) : Prop where
  n : u.X.n = 3
  first : ∀ a, a < 3 → u.X.first a = 8 * a
  count : ∀ a, a < 3 → u.X.count a = 8
  d : u.D.n = 24
/-- The first account's own. -/
structure OStep (u u' : UU) : Prop where
  bx : u'.bx = u.bx
  bd : u'.bd = u.bd
  sh : Shape u'
  has : u'.X.has 1 = u.X.has 1
  fl : ∀ s, 8 ≤ s → s < 16 → u'.D.fl s = u.D.fl s ∧ u'.D.pe s = u.D.pe s
  few : ∀ s, (u'.D.pe s).length ≤ (u.D.pe s).length + 1
theorem OStep.refl {u : UU} (sh : Shape u) : OStep u u := ⟨rfl, rfl, sh, rfl, fun _ _ _ => ⟨rfl, rfl⟩, fun _ => Nat.le_succ _⟩
theorem XS.err_ne (X : XS) (a : Int) : X.err a = 6 ∨ X.err a = 2 := by unfold XS.err; split <;> simp
def UU.withX (u : UU) (X : XS) : UU := { u with X := X }
theorem AtU.withX {h h' : Heap} {u : UU} {X : XS} {a : Nat} (hu : AtU h u) (vf : VF h h' (fun b => b = u.tb a)) (ha : a < u.X.n) (hx : ExtAt h' u.bx u.bd u.tb X) (h1 : X.n = u.X.n) (h2 : X.first = u.X.first) (h3 : X.count = u.X.count) : AtU h' (u.withX X) := by
  refine ⟨hx, hu.d.same fun b hb hb2 => vf.get b hb2 ?_, fun a ha => ?_⟩
  · rintro rfl
    exact FootX.notD hu (.inr ⟨a, ha, rfl⟩) hb
  · show X.first a + X.count a ≤ u.D.n
    rw [h2, h3]
    exact hu.fit a (by rw [← h1]; exact ha)
theorem UU.foot_withX {u : UU} {X : XS} (h1 : X.n = u.X.n) {b : Nat} (hb : (u.withX X).foot b) : u.foot b := by
  rcases hb with h | rfl | ⟨a, ha, h⟩
  · exact .inl h
  · exact .inr (.inl rfl)
  · exact .inr (.inr ⟨a, h1 ▸ ha, h⟩)
theorem XS.fill_n (X : XS) (a f n : Nat) (b : Bool) : (X.fill a f n b).n = X.n ∧ (X.fill a f n b).first = X.first ∧ (X.fill a f n b).count = X.count := ⟨rfl, rfl, rfl⟩
theorem XS.took_n (X : XS) (a n : Nat) (r : Option Nat) : (X.took a n r).n = X.n ∧ (X.took a n r).first = X.first ∧ (X.took a n r).count = X.count := by cases r <;> exact ⟨rfl, rfl, rfl⟩
theorem XS.fill_has (X : XS) {a a' : Nat} (f n : Nat) (b : Bool) (h : a' ≠ a) : (X.fill a f n b).has a' = X.has a' := by
  funext s; exact if_neg (by omega)
theorem XS.took_has (X : XS) {a a' : Nat} (n : Nat) (r : Option Nat) (h : a' ≠ a) : (X.took a n r).has a' = X.has a' := by
  cases r with
  | none => rfl
  | some f => exact X.fill_has f n true h
theorem Shape.withX {u : UU} {X : XS} (sh : Shape u) (h1 : X.n = u.X.n) (h2 : X.first = u.X.first) (h3 : X.count = u.X.count) : Shape (u.withX X) :=
  ⟨h1.trans sh.n, fun a ha => (congrFun h2 a).trans (sh.first a ha), fun a ha => (congrFun h3 a).trans (sh.count a ha), sh.d⟩
/-- A step of Take, on a unit. -/
theorem utake {h : Heap} {R W : Set'} {u : UU} (hu : AtU h u) (hR : ∀ b, u.foot b → R b) (hW : ∀ b, u.foot b → W b) {a n : Nat} (ha : a < u.X.n) (hn : 1 ≤ n) (hn2 : n ≤ 9223372036854775807) : SF Try.prog 19 [.ptr (some (u.bx, 0)), .int .i64 a, .int .i64 n] h R W fun v h' => ∃ r, TakeQ (u.X.has a) (u.X.count a) n r ∧ v = takeV r ∧ AtU h' (u.withX (u.X.took a n r)) := by
  refine (((take_ok (R := u.foot) (W := fun b => b = u.tb a) hu.x (fun b hb => .inr hb) ha hn hn2 rfl).kept).foot hR (fun b hb => hW b (by rw [hb]; exact .inr (.inr ⟨a, ha, rfl⟩)))).mono ?_
  rintro v h' ⟨⟨r, h1, h2, h3⟩, vf⟩
  obtain ⟨e1, e2, e3⟩ := u.X.took_n a n r
  exact ⟨r, h1, h2, hu.withX vf ha h3 e1 e2 e3⟩
theorem ugive {h : Heap} {R W : Set'} {u : UU} (hu : AtU h u) (hR : ∀ b, u.foot b → R b) (hW : ∀ b, u.foot b → W b) {a f n : Nat} (ha : a < u.X.n) (hn : 1 ≤ n) (hn2 : n ≤ 9223372036854775807) (hf2 : f ≤ 9223372036854775807) : SF Try.prog 20 [.ptr (some (u.bx, 0)), .int .i64 a, .int .i64 f, .int .i64 n] h R W fun v h' => (u.X.full a f n ∧ v = .int .i64 0 ∧ AtU h' (u.withX (u.X.fill a f n false))) ∨ (¬ u.X.full a f n ∧ v = .int .i64 6 ∧ h' = h) := by
  refine (((give_ok (R := u.foot) (W := fun b => b = u.tb a) hu.x (fun b hb => .inr hb) ha hn hn2 hf2 rfl).kept).foot hR (fun b hb => hW b (by rw [hb]; exact .inr (.inr ⟨a, ha, rfl⟩)))).mono ?_
  rintro v h' ⟨⟨h1, h2, h3⟩ | h1, vf⟩
  · exact .inl ⟨h1, h2, hu.withX vf ha h3 rfl rfl rfl⟩
  · exact .inr h1
/-- A write of any bytes to any sector. -/
theorem uwrite {h : Heap} {R W Rd : Set'} {u : UU} (hu : AtU h u) (hR : ∀ b, u.foot b → R b) (hRd : ∀ b, Rd b → R b) (hW : ∀ b, u.foot b → W b) {a : Nat} (ha : a < u.X.n) (s : Int) {d : V} {l : List V} (hd : BytesV h Rd d l) (few : ∀ s, (u.D.pe s).length < 1000000000) : SF Try.prog 26 [.ptr (some (u.bx, 0)), .int .i64 a, .int .i64 s, d] h R W fun r h' =>
    (u.X.own a s ∧ l.length = 128 ∧ r = .int .i64 0 ∧ ∃ nb, h.n ≤ nb ∧ AtU h' (u.write (u.X.first a + s.toNat) nb l)) ∨ (u.X.own a s ∧ l.length ≠ 128 ∧ r = .int .i64 2 ∧ h' = h) ∨ (¬ u.X.own a s ∧ r = .int .i64 6 ∧ h' = h) := by
  by_cases ho : u.X.own a s
  · have ho' := ho
    obtain ⟨h1, h2, h3, h4⟩ := ho
    obtain ⟨s, rfl⟩ := Int.eq_ofNat_of_zero_le h2
    simp only [Int.toNat_natCast] at h3 h4 ⊢
    by_cases hl : l.length = 128
    · have hN := secN_eq
      rcases hd.2.2 with ⟨h0, _⟩ | ⟨db, dof, dcap, dex, dc, dce, rfl, hRb, hdb, hds, hdg⟩
      · rw [h0] at hl; cases hl
      have hsv : SecV h (.slice (some (db, dof)) l.length dcap dex) l := ⟨db, dof, dcap, dex, dc, dce, by rw [hl], hdb, by omega, by rw [hN, ← hl]; exact hdg⟩
      refine (xwrite_ok hu hR hW ha (by omega) h4 hsv (fun b _ _ _ _ e => by cases e; exact hRd _ hRb) ⟨by omega, hd.2.1⟩ few).mono ?_
      rintro r h' ⟨rfl, nb, hnb, hu2⟩
      exact .inl ⟨ho', hl, rfl, nb, hnb, hu2⟩
    · refine (xwrite_len hu hR ha (by omega) h4 hd.lenV hl).mono ?_
      rintro r h' ⟨rfl, rfl⟩
      exact .inr (.inl ⟨ho', hl, rfl, rfl⟩)
  · refine (xwrite_bad hu.x (fun b hb => hR b (.inr hb)) ho d).mono ?_
    rintro r h' ⟨rfl, rfl⟩
    refine .inr (.inr ⟨ho, ?_, rfl⟩)
    unfold XS.err
    rw [if_pos (by omega)]
theorem Shape.write {u : UU} (sh : Shape u) (s nb : Nat) (l : List V) : Shape (u.write s nb l) := ⟨sh.n, sh.first, sh.count, sh.d⟩
theorem Shape.flush {u : UU} (sh : Shape u) (a m : Nat) : Shape (u.flush a m) := ⟨sh.n, sh.first, sh.count, sh.d⟩
theorem write_few (D : DS) (s : Nat) (l : List V) (t : Nat) : ((D.write s l).pe t).length ≤ (D.pe t).length + 1 := by
  simp only [DS.write]
  split
  · rename_i e; subst e; simp
  · omega
theorem flush_few (D : DS) (a m : Nat) (t : Nat) : ((D.flush a m).pe t).length ≤ (D.pe t).length + 1 := by
  simp only [DS.flush]
  split
  · simp
  · omega
set_option maxHeartbeats 2000000 in
theorem other_ok {h : Heap} {R : Set'} {u : UU} (hu : AtU h u) (sh : Shape u) (few : ∀ s, (u.D.pe s).length < 1000000) (hR : ∀ b, R b) {v : V} {m : Nat} (hv : StepsV h v m) (i : Nat) (hi : i ≤ 9223372036854775807) :
    SF Try.prog 16 [.ptr (some (u.bx, 0)), v, .int .i64 i] h R u.foot fun r h' => ∃ u', AtU h' u' ∧ OStep u u' ∧ ∀ b, u'.foot b → u.foot b ∨ h.n ≤ b := by
  have hlen := hv.lenV
  have hml := hv.len
  refine SF.go hm Try.func16 ir16_eq ?_
  by_cases him : i < m
  · rcases hv.at' with ⟨h0, _⟩ | ⟨b, o, cap, c, ce, rfl, hb, hsz, hc⟩
    · omega
    obtain ⟨kd, n1, n2, n3, d, kv, c0, c1, c2, c3, c4, c5, hst⟩ := hc i him
    obtain ⟨⟨l, hd⟩, ⟨mk, ks, kw, hk⟩, ⟨hb1, hb2, hb3⟩⟩ := hst
    have hone1 := hd.one
    have hone2 := hk.one
    have hRb := hR b
    obtain ⟨g, e2, gn, ⟨st, s1, ss, z0, z1, z2, z3, z4, z5⟩, hold⟩ := stX h kd n1 n2 n3 d kv
    have hu2 := hu.old hold
    have hd2 := hd.old hold
    obtain ⟨w, hw2, hand⟩ := w_andOne n1
    have hwho : (w : Int) * 2 = ((w * 2 : Nat) : Int) := by omega
    have ha3 : w * 2 < u.X.n := by rw [sh.n]; omega
    have hne : (1 : Nat) ≠ w * 2 := by omega
    have hcnt := sh.count (w * 2) (by omega)
    have hfst := sh.first (w * 2) (by omega)
    have key : ∀ X : XS, X.n = u.X.n → X.first = u.X.first → X.count = u.X.count → X.has 1 = u.X.has 1 → OStep u (u.withX X) := fun X h1 h2 h3 h4 => ⟨rfl, rfl, sh.withX h1 h2 h3, h4, fun _ _ _ => ⟨rfl, rfl⟩, fun _ => Nat.le_succ _⟩
    unfold i64B at hb1 hb2 hb3
    by_cases k1 : kd = 1
    · subst k1
      simp -implicitDefEqProofs (disch := (first | omega | (simp -implicitDefEqProofs only [Heap.n_push, Heap.n_set, Blk.size_set, Blk.size_puts, Blk.size_putA, w_of_size, w_rep_size, List.length_cons, List.length_nil, ne_eq] <;> omega) | fail)) only [go_sem, Nat.reduceAdd, Nat.reduceSub, Nat.reduceMul, Nat.reduceLT, Nat.reduceMod, Nat.reduceDiv, Nat.reduceEqDiff, Nat.reduceBEq, Nat.reduceLeDiff, ↓reduceIte, reduceCtorEq, Int.reduceAdd, Int.reduceSub, Int.reduceLT, Int.reduceLE, Int.reduceBEq, Int.reduceEq, Int.reduceToNat, ir16, ↓hlen, hb, c0, c1, c2, c3, c4, c5, ↓hone1, ↓hone2, e2, hRb, s1, ss, z0, z1, z2, z3, z4, z5, ↓hand, hwho]
      by_cases hn : n2 < 1
      · refine GCall.of (take_bad hu2.x (fun b hb => by simp [hR]) (.inr hn)) ?_
        rintro r h' ⟨rfl, rfl⟩
        simp -implicitDefEqProofs (disch := (first | omega | (simp -implicitDefEqProofs only [Heap.n_push, Heap.n_set, Blk.size_set, Blk.size_puts, Blk.size_putA, w_of_size, w_rep_size, List.length_cons, List.length_nil, ne_eq] <;> omega) | fail)) only [go_sem, Nat.reduceAdd, Nat.reduceSub, Nat.reduceMul, Nat.reduceLT, Nat.reduceMod, Nat.reduceDiv, Nat.reduceEqDiff, Nat.reduceBEq, Nat.reduceLeDiff, ↓reduceIte, reduceCtorEq, Int.reduceAdd, Int.reduceSub, Int.reduceLT, Int.reduceLE, Int.reduceBEq, Int.reduceEq, Int.reduceToNat]
        exact ⟨u, hu2, OStep.refl sh, fun b hb => .inl hb⟩
      · obtain ⟨n, rfl⟩ := Int.eq_ofNat_of_zero_le (show 0 ≤ n2 by omega)
        refine GCall.of (utake hu2 (fun b hb => by simp [hR]) (fun b hb => .inr hb) ha3 (by omega) (by omega)) ?_
        rintro r h' ⟨q, _, rfl, hu3⟩
        simp -implicitDefEqProofs (disch := (first | omega | (simp -implicitDefEqProofs only [Heap.n_push, Heap.n_set, Blk.size_set, Blk.size_puts, Blk.size_putA, w_of_size, w_rep_size, List.length_cons, List.length_nil, ne_eq] <;> omega) | fail)) only [go_sem, Nat.reduceAdd, Nat.reduceSub, Nat.reduceMul, Nat.reduceLT, Nat.reduceMod, Nat.reduceDiv, Nat.reduceEqDiff, Nat.reduceBEq, Nat.reduceLeDiff, ↓reduceIte, reduceCtorEq, Int.reduceAdd, Int.reduceSub, Int.reduceLT, Int.reduceLE, Int.reduceBEq, Int.reduceEq, Int.reduceToNat]
        obtain ⟨e1, e2, e3⟩ := u.X.took_n (w * 2) n q
        exact ⟨_, hu3, key _ e1 e2 e3 (u.X.took_has n q hne), fun b hb => .inl (UU.foot_withX e1 hb)⟩
    · by_cases k2 : kd = 2
      · subst k2
        simp -implicitDefEqProofs (disch := (first | omega | (simp -implicitDefEqProofs only [Heap.n_push, Heap.n_set, Blk.size_set, Blk.size_puts, Blk.size_putA, w_of_size, w_rep_size, List.length_cons, List.length_nil, ne_eq] <;> omega) | fail)) only [go_sem, Nat.reduceAdd, Nat.reduceSub, Nat.reduceMul, Nat.reduceLT, Nat.reduceMod, Nat.reduceDiv, Nat.reduceEqDiff, Nat.reduceBEq, Nat.reduceLeDiff, ↓reduceIte, reduceCtorEq, Int.reduceAdd, Int.reduceSub, Int.reduceLT, Int.reduceLE, Int.reduceBEq, Int.reduceEq, Int.reduceToNat, ir16, ↓hlen, hb, c0, c1, c2, c3, c4, c5, ↓hone1, ↓hone2, e2, hRb, s1, ss, z0, z1, z2, z3, z4, z5, ↓hand, hwho]
        by_cases hn : n3 < 1 ∨ n2 < 0
        · refine GCall.of (give_bad hu2.x (fun b hb => by simp [hR]) (.inr hn)) ?_
          rintro r h' ⟨rfl, rfl⟩
          simp -implicitDefEqProofs (disch := (first | omega | (simp -implicitDefEqProofs only [Heap.n_push, Heap.n_set, Blk.size_set, Blk.size_puts, Blk.size_putA, w_of_size, w_rep_size, List.length_cons, List.length_nil, ne_eq] <;> omega) | fail)) only [go_sem, Nat.reduceAdd, Nat.reduceSub, Nat.reduceMul, Nat.reduceLT, Nat.reduceMod, Nat.reduceDiv, Nat.reduceEqDiff, Nat.reduceBEq, Nat.reduceLeDiff, ↓reduceIte, reduceCtorEq, Int.reduceAdd, Int.reduceSub, Int.reduceLT, Int.reduceLE, Int.reduceBEq, Int.reduceEq, Int.reduceToNat]
          exact ⟨u, hu2, OStep.refl sh, fun b hb => .inl hb⟩
        · obtain ⟨n, rfl⟩ := Int.eq_ofNat_of_zero_le (show 0 ≤ n3 by omega)
          obtain ⟨f, rfl⟩ := Int.eq_ofNat_of_zero_le (show 0 ≤ n2 by omega)
          refine GCall.of (ugive hu2 (fun b hb => by simp [hR]) (fun b hb => .inr hb) ha3 (by omega) (by omega) (by omega)) ?_
          rintro r h' (⟨_, rfl, hu3⟩ | ⟨_, rfl, rfl⟩)
          · simp -implicitDefEqProofs (disch := (first | omega | (simp -implicitDefEqProofs only [Heap.n_push, Heap.n_set, Blk.size_set, Blk.size_puts, Blk.size_putA, w_of_size, w_rep_size, List.length_cons, List.length_nil, ne_eq] <;> omega) | fail)) only [go_sem, Nat.reduceAdd, Nat.reduceSub, Nat.reduceMul, Nat.reduceLT, Nat.reduceMod, Nat.reduceDiv, Nat.reduceEqDiff, Nat.reduceBEq, Nat.reduceLeDiff, ↓reduceIte, reduceCtorEq, Int.reduceAdd, Int.reduceSub, Int.reduceLT, Int.reduceLE, Int.reduceBEq, Int.reduceEq, Int.reduceToNat]
            exact ⟨_, hu3, key _ rfl rfl rfl (u.X.fill_has f n false hne), fun b hb => .inl (UU.foot_withX rfl hb)⟩
          · simp -implicitDefEqProofs (disch := (first | omega | (simp -implicitDefEqProofs only [Heap.n_push, Heap.n_set, Blk.size_set, Blk.size_puts, Blk.size_putA, w_of_size, w_rep_size, List.length_cons, List.length_nil, ne_eq] <;> omega) | fail)) only [go_sem, Nat.reduceAdd, Nat.reduceSub, Nat.reduceMul, Nat.reduceLT, Nat.reduceMod, Nat.reduceDiv, Nat.reduceEqDiff, Nat.reduceBEq, Nat.reduceLeDiff, ↓reduceIte, reduceCtorEq, Int.reduceAdd, Int.reduceSub, Int.reduceLT, Int.reduceLE, Int.reduceBEq, Int.reduceEq, Int.reduceToNat]
            exact ⟨u, hu2, OStep.refl sh, fun b hb => .inl hb⟩
      · by_cases k3 : kd = 3
        · subst k3
          simp -implicitDefEqProofs (disch := (first | omega | (simp -implicitDefEqProofs only [Heap.n_push, Heap.n_set, Blk.size_set, Blk.size_puts, Blk.size_putA, w_of_size, w_rep_size, List.length_cons, List.length_nil, ne_eq] <;> omega) | fail)) only [go_sem, Nat.reduceAdd, Nat.reduceSub, Nat.reduceMul, Nat.reduceLT, Nat.reduceMod, Nat.reduceDiv, Nat.reduceEqDiff, Nat.reduceBEq, Nat.reduceLeDiff, ↓reduceIte, reduceCtorEq, Int.reduceAdd, Int.reduceSub, Int.reduceLT, Int.reduceLE, Int.reduceBEq, Int.reduceEq, Int.reduceToNat, ir16, ↓hlen, hb, c0, c1, c2, c3, c4, c5, ↓hone1, ↓hone2, e2, hRb, s1, ss, z0, z1, z2, z3, z4, z5, ↓hand, hwho]
          refine GCall.of (uwrite hu2 (fun b _ => by simp [hR]) (fun b _ => by simp [hR]) (fun b hb => .inr hb) ha3 n2 hd2 (fun s => by have := few s; omega)) ?_
          rintro r h' (⟨hown, hl, rfl, nb, hnb, hu3⟩ | ⟨_, _, rfl, rfl⟩ | ⟨_, rfl, rfl⟩)
          · simp -implicitDefEqProofs (disch := (first | omega | (simp -implicitDefEqProofs only [Heap.n_push, Heap.n_set, Blk.size_set, Blk.size_puts, Blk.size_putA, w_of_size, w_rep_size, List.length_cons, List.length_nil, ne_eq] <;> omega) | fail)) only [go_sem, Nat.reduceAdd, Nat.reduceSub, Nat.reduceMul, Nat.reduceLT, Nat.reduceMod, Nat.reduceDiv, Nat.reduceEqDiff, Nat.reduceBEq, Nat.reduceLeDiff, ↓reduceIte, reduceCtorEq, Int.reduceAdd, Int.reduceSub, Int.reduceLT, Int.reduceLE, Int.reduceBEq, Int.reduceEq, Int.reduceToNat]
            obtain ⟨_, o1, o2, _⟩ := hown
            simp only [Int.toNat_natCast] at o2
            rw [hcnt] at o2
            rw [hfst] at hu3
            refine ⟨_, hu3, ⟨rfl, rfl, sh.write _ _ _, rfl, fun s h1 h2 => ?_, write_few _ _ _⟩, fun b hb => (UU.foot_write hb).imp id fun e => by omega⟩
            have : s ≠ 8 * (w * 2) + n2.toNat := by omega
            simp only [UU.write, DS.write, if_neg this, and_self]
          · simp -implicitDefEqProofs (disch := (first | omega | (simp -implicitDefEqProofs only [Heap.n_push, Heap.n_set, Blk.size_set, Blk.size_puts, Blk.size_putA, w_of_size, w_rep_size, List.length_cons, List.length_nil, ne_eq] <;> omega) | fail)) only [go_sem, Nat.reduceAdd, Nat.reduceSub, Nat.reduceMul, Nat.reduceLT, Nat.reduceMod, Nat.reduceDiv, Nat.reduceEqDiff, Nat.reduceBEq, Nat.reduceLeDiff, ↓reduceIte, reduceCtorEq, Int.reduceAdd, Int.reduceSub, Int.reduceLT, Int.reduceLE, Int.reduceBEq, Int.reduceEq, Int.reduceToNat]
            exact ⟨u, hu2, OStep.refl sh, fun b hb => .inl hb⟩
          · simp -implicitDefEqProofs (disch := (first | omega | (simp -implicitDefEqProofs only [Heap.n_push, Heap.n_set, Blk.size_set, Blk.size_puts, Blk.size_putA, w_of_size, w_rep_size, List.length_cons, List.length_nil, ne_eq] <;> omega) | fail)) only [go_sem, Nat.reduceAdd, Nat.reduceSub, Nat.reduceMul, Nat.reduceLT, Nat.reduceMod, Nat.reduceDiv, Nat.reduceEqDiff, Nat.reduceBEq, Nat.reduceLeDiff, ↓reduceIte, reduceCtorEq, Int.reduceAdd, Int.reduceSub, Int.reduceLT, Int.reduceLE, Int.reduceBEq, Int.reduceEq, Int.reduceToNat]
            exact ⟨u, hu2, OStep.refl sh, fun b hb => .inl hb⟩
        · by_cases k4 : kd = 4
          · subst k4
            simp -implicitDefEqProofs (disch := (first | omega | (simp -implicitDefEqProofs only [Heap.n_push, Heap.n_set, Blk.size_set, Blk.size_puts, Blk.size_putA, w_of_size, w_rep_size, List.length_cons, List.length_nil, ne_eq] <;> omega) | fail)) only [go_sem, Nat.reduceAdd, Nat.reduceSub, Nat.reduceMul, Nat.reduceLT, Nat.reduceMod, Nat.reduceDiv, Nat.reduceEqDiff, Nat.reduceBEq, Nat.reduceLeDiff, ↓reduceIte, reduceCtorEq, Int.reduceAdd, Int.reduceSub, Int.reduceLT, Int.reduceLE, Int.reduceBEq, Int.reduceEq, Int.reduceToNat, ir16, ↓hlen, hb, c0, c1, c2, c3, c4, c5, ↓hone1, ↓hone2, e2, hRb, s1, ss, z0, z1, z2, z3, z4, z5, ↓hand, hwho]
            refine GCall.of (xflush_ok hu2 (fun b hb => by simp [hR]) (fun b hb => .inr hb) ha3) ?_
            rintro r h' ⟨rfl, hu3⟩
            simp -implicitDefEqProofs (disch := (first | omega | (simp -implicitDefEqProofs only [Heap.n_push, Heap.n_set, Blk.size_set, Blk.size_puts, Blk.size_putA, w_of_size, w_rep_size, List.length_cons, List.length_nil, ne_eq] <;> omega) | fail)) only [go_sem, Nat.reduceAdd, Nat.reduceSub, Nat.reduceMul, Nat.reduceLT, Nat.reduceMod, Nat.reduceDiv, Nat.reduceEqDiff, Nat.reduceBEq, Nat.reduceLeDiff, ↓reduceIte, reduceCtorEq, Int.reduceAdd, Int.reduceSub, Int.reduceLT, Int.reduceLE, Int.reduceBEq, Int.reduceEq, Int.reduceToNat]
            rw [hfst, hcnt] at hu3
            refine ⟨_, hu3, ⟨rfl, rfl, sh.flush _ _, rfl, fun s h1 h2 => ?_, flush_few _ _ _⟩, fun b hb => .inl (UU.foot_flush hb)⟩
            have : ¬ (8 * (w * 2) ≤ s ∧ s < 8 * (w * 2) + 8) := by omega
            simp only [UU.flush, DS.flush, if_neg this, and_self]
          · simp -implicitDefEqProofs (disch := (first | omega | (simp -implicitDefEqProofs only [Heap.n_push, Heap.n_set, Blk.size_set, Blk.size_puts, Blk.size_putA, w_of_size, w_rep_size, List.length_cons, List.length_nil, ne_eq] <;> omega) | fail)) only [go_sem, Nat.reduceAdd, Nat.reduceSub, Nat.reduceMul, Nat.reduceLT, Nat.reduceMod, Nat.reduceDiv, Nat.reduceEqDiff, Nat.reduceBEq, Nat.reduceLeDiff, ↓reduceIte, reduceCtorEq, Int.reduceAdd, Int.reduceSub, Int.reduceLT, Int.reduceLE, Int.reduceBEq, Int.reduceEq, Int.reduceToNat, ir16, ↓hlen, hb, c0, c1, c2, c3, c4, c5, ↓hone1, ↓hone2, e2, hRb, s1, ss, z0, z1, z2, z3, z4, z5, ↓hand, hwho]
            exact ⟨u, hu2, OStep.refl sh, fun b hb => .inl hb⟩
  · simp -implicitDefEqProofs (disch := (first | omega | (simp -implicitDefEqProofs only [Heap.n_push, Heap.n_set, Blk.size_set, Blk.size_puts, Blk.size_putA, w_of_size, w_rep_size, List.length_cons, List.length_nil, ne_eq] <;> omega) | fail)) only [go_sem, Nat.reduceAdd, Nat.reduceSub, Nat.reduceMul, Nat.reduceLT, Nat.reduceMod, Nat.reduceDiv, Nat.reduceEqDiff, Nat.reduceBEq, Nat.reduceLeDiff, ↓reduceIte, reduceCtorEq, Int.reduceAdd, Int.reduceSub, Int.reduceLT, Int.reduceLE, Int.reduceBEq, Int.reduceEq, Int.reduceToNat, ir16, ↓hlen]
    exact ⟨u, hu, OStep.refl sh, fun b hb => .inl hb⟩
end Go.Proofs.Ythdkhbhicimpdaa
set_option maxRecDepth 100000
set_option linter.unusedVariables false
namespace Go.Proofs.Ythdkhbhicimpdaa
open Go Go.Vm
attribute [-go_sem] sz_113
def LC.fst : LC → LC
  | .seq a _ => a
  | c => c
def LC.snd : LC → LC
  | .seq _ b => b
  | _ => .skip
structure Sim (u w : UU) : Prop where
  su : Shape u
  sw : Shape w
  has : u.X.has 1 = w.X.has 1
  fl : ∀ s, 8 ≤ s → s < 16 → u.D.fl s = w.D.fl s ∧ u.D.pe s = w.D.pe s
theorem Sim.seen {u w : UU} (z : Sim u w) {s : Nat} (h1 : 8 ≤ s) (h2 : s < 16) : u.D.seen s = w.D.seen s := by
  obtain ⟨e1, e2⟩ := z.fl s h1 h2
  unfold DS.seen
  rw [e1, e2]
def Apart (u w : UU) : Prop := ∀ b, u.foot b → ¬ w.foot b
theorem sb_neq (a : ByteArray) : strBin .neq a a = some (.bool false) := by
  show some (V.bool (!eqB a.data.toList a.data.toList)) = _
  rw [eqB_eq]; simp
theorem conv_nil (h : Heap) : convV Try.prog 45 9 (.slice none 0 0 true) h = some (.str .empty, []) := by
  simp only [convV, Try.underlying45, Try.underlying9, Try.underlying5]
theorem SecAt.old {h h' : Heap} {b : Nat} {l : List V} (hs : SecAt h b l) (hk : ∀ b, b < h.n → h'.get b = h.get b) : SecAt h' b l := by
  obtain ⟨c, c1, c2⟩ := hs
  exact ⟨c, by rw [hk _ (Heap.lt_of_get c1)]; exact c1, c2⟩
theorem SecAt.conv {h : Heap} {b : Nat} {l : List V} (hs : SecAt h b l) (hl : IsSec l) : convV Try.prog 45 9 (.slice (some (b, 0)) 128 128 true) h = some (.str (strB l), [b]) := by
  obtain ⟨c, c1, c2, c3, c4⟩ := hs
  have := secN_eq
  exact conv_str c1 (by omega) (by rw [← this]; exact c4) hl.2
def ir17_t : LC := LC.snd (LC.snd (LC.snd ir17))
theorem ir17_split : ir17 = .seq (LC.fst ir17) (.seq (LC.fst (LC.snd ir17)) (.seq (LC.fst (LC.snd (LC.snd ir17))) ir17_t)) := rfl
set_option maxHeartbeats 2000000 in
theorem alike_loop {g : Heap} {n0 : Nat} {W : Set'} {u w : UU} {Q : Ex → Fr → Heap → Prop} {t : List It} (hu : AtU g u) (hw : AtU g w) (z : Sim u w)
    (hk : ∀ tr g', tr.get 0 = some (.ptr (some (u.bx, 0))) → tr.get 1 = some (.ptr (some (w.bx, 0))) → tr.get 7 = some (.bool true) → g.n ≤ g'.n → (∀ b, b < g.n → g'.get b = g.get b) → resume ⟨Try.prog, true⟩ (fun _ => True) (fun b => n0 ≤ b ∨ W b) none Q t (.exit 1) ⟨⟨164, tr⟩, []⟩ g')
    {tr : Tr V} (t0 : tr.get 0 = some (.ptr (some (u.bx, 0)))) (t1 : tr.get 1 = some (.ptr (some (w.bx, 0)))) (t7 : tr.get 7 = some (.bool true)) (t12 : tr.get 12 = some (.int .i64 0)) : GLoop ⟨Try.prog, true⟩ (fun _ => True) (fun b => n0 ≤ b ∨ W b) none Q ir17_l0 t ⟨⟨164, tr⟩, []⟩ g := by
  refine GLoop.inv hm (fun k f g' => f.mks = [] ∧ f.tm.n = 164 ∧ f.tm.get 0 = some (.ptr (some (u.bx, 0))) ∧ f.tm.get 1 = some (.ptr (some (w.bx, 0))) ∧ f.tm.get 7 = some (.bool true) ∧ g.n ≤ g'.n ∧ (∀ b, b < g.n → g'.get b = g.get b) ∧ ∃ i : Nat, i + k = 8 ∧ f.tm.get 12 = some (.int .i64 i)) 8 ?_ ?_
  · exact ⟨rfl, rfl, t0, t1, t7, Nat.le_refl _, fun b hb => rfl, 0, by omega, t12⟩
  clear t0 t1 t7 t12
  clear tr
  rintro k ⟨⟨n', tr⟩, mks⟩ g1 ⟨hmk, hn', t0, t1, t7, hgn, hold, i, hi, t12⟩
  simp only [Tm.get_mk] at hmk hn' t0 t1 t7 t12
  subst hmk hn'
  by_cases hi8 : i < 8
  · have hu1 := hu.old hold
    have hw1 := hw.old hold
    have su := z.su
    have sw := z.sw
    have hun : 1 < u.X.n := by rw [su.n]; omega
    have hwn : 1 < w.X.n := by rw [sw.n]; omega
    have huc : i < u.X.count 1 := by rw [su.count 1 (by omega)]; exact hi8
    have hwc : i < w.X.count 1 := by rw [sw.count 1 (by omega)]; exact hi8
    have huf := su.first 1 (by omega)
    have hwf := sw.first 1 (by omega)
    have hsn := z.seen (s := 8 + i) (by omega) (by omega)
    obtain ⟨hfl, hpe⟩ := z.fl (8 + i) (by omega) (by omega)
    have hud : 8 + i < u.D.n := by rw [su.d]; omega
    have hwd : 8 + i < w.D.n := by rw [sw.d]; omega
    have hcast : (8 : Int) + i = ((8 + i : Nat) : Int) := by omega
    cases hb : u.X.has 1 i with
    | true =>
      have hb2 : w.X.has 1 i = true := by rw [← z.has]; exact hb
      simp -implicitDefEqProofs (disch := (first | omega | (simp -implicitDefEqProofs only [Heap.n_push, Heap.n_set, Blk.size_set, Blk.size_puts, Blk.size_putA, w_of_size, w_rep_size, List.length_cons, List.length_nil, ne_eq] <;> omega) | fail)) only [go_sem, Nat.reduceAdd, Nat.reduceSub, Nat.reduceMul, Nat.reduceLT, Nat.reduceMod, Nat.reduceDiv, Nat.reduceEqDiff, Nat.reduceBEq, Nat.reduceLeDiff, ↓reduceIte, reduceCtorEq, Int.reduceAdd, Int.reduceSub, Int.reduceLT, Int.reduceLE, Int.reduceBEq, Int.reduceEq, Int.reduceToNat, ir17_l0, t0, t1, t7, t12]
      refine GCall.of (xread_ok (a := 1) hu1 (fun _ _ => by simp) hun huc hb).any ?_
      rintro v g2 ⟨ba, rfl, hs2, b2l, b2u, h2⟩
      have n2 : g1.n ≤ g2.n := by omega
      have hw2 := hw1.old h2
      simp -implicitDefEqProofs (disch := (first | omega | (simp -implicitDefEqProofs only [Heap.n_push, Heap.n_set, Blk.size_set, Blk.size_puts, Blk.size_putA, w_of_size, w_rep_size, List.length_cons, List.length_nil, ne_eq] <;> omega) | fail)) only [go_sem, Nat.reduceAdd, Nat.reduceSub, Nat.reduceMul, Nat.reduceLT, Nat.reduceMod, Nat.reduceDiv, Nat.reduceEqDiff, Nat.reduceBEq, Nat.reduceLeDiff, ↓reduceIte, reduceCtorEq, Int.reduceAdd, Int.reduceSub, Int.reduceLT, Int.reduceLE, Int.reduceBEq, Int.reduceEq, Int.reduceToNat, t0, t1, t7, t12]
      refine GCall.of (xread_ok (a := 1) hw2 (fun _ _ => by simp) hwn hwc hb2).any ?_
      rintro v g3 ⟨bb, rfl, hs3, b3l, b3u, h3⟩
      have K3 : ∀ b, b < g1.n → g3.get b = g1.get b := fun b hb => by rw [h3 b (by omega), h2 b hb]
      have n3 : g1.n ≤ g3.n := by omega
      simp -implicitDefEqProofs (disch := (first | omega | (simp -implicitDefEqProofs only [Heap.n_push, Heap.n_set, Blk.size_set, Blk.size_puts, Blk.size_putA, w_of_size, w_rep_size, List.length_cons, List.length_nil, ne_eq] <;> omega) | fail)) only [go_sem, Nat.reduceAdd, Nat.reduceSub, Nat.reduceMul, Nat.reduceLT, Nat.reduceMod, Nat.reduceDiv, Nat.reduceEqDiff, Nat.reduceBEq, Nat.reduceLeDiff, ↓reduceIte, reduceCtorEq, Int.reduceAdd, Int.reduceSub, Int.reduceLT, Int.reduceLE, Int.reduceBEq, Int.reduceEq, Int.reduceToNat, t0, t1, t7, t12]
      refine GCall.of (xdisk_ok (hu1.old K3).x (by simp)).any ?_
      rintro v g4 ⟨rfl, rfl⟩
      simp -implicitDefEqProofs (disch := (first | omega | (simp -implicitDefEqProofs only [Heap.n_push, Heap.n_set, Blk.size_set, Blk.size_puts, Blk.size_putA, w_of_size, w_rep_size, List.length_cons, List.length_nil, ne_eq] <;> omega) | fail)) only [go_sem, Nat.reduceAdd, Nat.reduceSub, Nat.reduceMul, Nat.reduceLT, Nat.reduceMod, Nat.reduceDiv, Nat.reduceEqDiff, Nat.reduceBEq, Nat.reduceLeDiff, ↓reduceIte, reduceCtorEq, Int.reduceAdd, Int.reduceSub, Int.reduceLT, Int.reduceLE, Int.reduceBEq, Int.reduceEq, Int.reduceToNat, t0, t1, t7, t12, hcast]
      refine GCall.of (flushed_ok (hu1.old K3).d (fun _ _ => by simp) hud).any ?_
      rintro v g5 ⟨bp, rfl, hs5, b5l, b5u, h5⟩
      have K5 : ∀ b, b < g1.n → g5.get b = g1.get b := fun b hb => by rw [h5 b (by omega), K3 b hb]
      simp -implicitDefEqProofs (disch := (first | omega | (simp -implicitDefEqProofs only [Heap.n_push, Heap.n_set, Blk.size_set, Blk.size_puts, Blk.size_putA, w_of_size, w_rep_size, List.length_cons, List.length_nil, ne_eq] <;> omega) | fail)) only [go_sem, Nat.reduceAdd, Nat.reduceSub, Nat.reduceMul, Nat.reduceLT, Nat.reduceMod, Nat.reduceDiv, Nat.reduceEqDiff, Nat.reduceBEq, Nat.reduceLeDiff, ↓reduceIte, reduceCtorEq, Int.reduceAdd, Int.reduceSub, Int.reduceLT, Int.reduceLE, Int.reduceBEq, Int.reduceEq, Int.reduceToNat, t0, t1, t7, t12]
      refine GCall.of (xdisk_ok (hw1.old K5).x (by simp)).any ?_
      rintro v g6 ⟨rfl, rfl⟩
      simp -implicitDefEqProofs (disch := (first | omega | (simp -implicitDefEqProofs only [Heap.n_push, Heap.n_set, Blk.size_set, Blk.size_puts, Blk.size_putA, w_of_size, w_rep_size, List.length_cons, List.length_nil, ne_eq] <;> omega) | fail)) only [go_sem, Nat.reduceAdd, Nat.reduceSub, Nat.reduceMul, Nat.reduceLT, Nat.reduceMod, Nat.reduceDiv, Nat.reduceEqDiff, Nat.reduceBEq, Nat.reduceLeDiff, ↓reduceIte, reduceCtorEq, Int.reduceAdd, Int.reduceSub, Int.reduceLT, Int.reduceLE, Int.reduceBEq, Int.reduceEq, Int.reduceToNat, t0, t1, t7, t12, hcast]
      refine GCall.of (flushed_ok (hw1.old K5).d (fun _ _ => by simp) hwd).any ?_
      rintro v g7 ⟨bq, rfl, hs7, b7l, b7u, h7⟩
      have K7 : ∀ b, b < g1.n → g7.get b = g1.get b := fun b hb => by rw [h7 b (by omega), K5 b hb]
      have hcp := (hs5.old h7).conv (hu.d.fl _ hud)
      have hcq := hs7.conv (hw.d.fl _ hwd)
      rw [← hfl] at hcq
      have hca := (((hs2.old h3).old h5).old h7).conv (by rw [huf]; exact hu.d.seen hud)
      have hcb := ((hs3.old h5).old h7).conv (by rw [hwf]; exact hw.d.seen hwd)
      rw [huf, hsn] at hca
      rw [hwf] at hcb
      simp -implicitDefEqProofs (disch := (first | omega | (simp -implicitDefEqProofs only [Heap.n_push, Heap.n_set, Blk.size_set, Blk.size_puts, Blk.size_putA, w_of_size, w_rep_size, List.length_cons, List.length_nil, ne_eq] <;> omega) | fail)) only [go_sem, Nat.reduceAdd, Nat.reduceSub, Nat.reduceMul, Nat.reduceLT, Nat.reduceMod, Nat.reduceDiv, Nat.reduceEqDiff, Nat.reduceBEq, Nat.reduceLeDiff, ↓reduceIte, reduceCtorEq, Int.reduceAdd, Int.reduceSub, Int.reduceLT, Int.reduceLE, Int.reduceBEq, Int.reduceEq, Int.reduceToNat, t0, t1, t7, t12, ↓cv_op, hca, hcb, sb_neq, undefV]
      refine GCall.of (num_ok _).any ?_
      rintro v g8 ⟨rfl, rfl⟩
      simp -implicitDefEqProofs (disch := (first | omega | (simp -implicitDefEqProofs only [Heap.n_push, Heap.n_set, Blk.size_set, Blk.size_puts, Blk.size_putA, w_of_size, w_rep_size, List.length_cons, List.length_nil, ne_eq] <;> omega) | fail)) only [go_sem, Nat.reduceAdd, Nat.reduceSub, Nat.reduceMul, Nat.reduceLT, Nat.reduceMod, Nat.reduceDiv, Nat.reduceEqDiff, Nat.reduceBEq, Nat.reduceLeDiff, ↓reduceIte, reduceCtorEq, Int.reduceAdd, Int.reduceSub, Int.reduceLT, Int.reduceLE, Int.reduceBEq, Int.reduceEq, Int.reduceToNat, t0, t1, t7, t12, undefV]
      refine GCall.of (num_ok _).any ?_
      rintro v g8 ⟨rfl, rfl⟩
      simp -implicitDefEqProofs (disch := (first | omega | (simp -implicitDefEqProofs only [Heap.n_push, Heap.n_set, Blk.size_set, Blk.size_puts, Blk.size_putA, w_of_size, w_rep_size, List.length_cons, List.length_nil, ne_eq] <;> omega) | fail)) only [go_sem, Nat.reduceAdd, Nat.reduceSub, Nat.reduceMul, Nat.reduceLT, Nat.reduceMod, Nat.reduceDiv, Nat.reduceEqDiff, Nat.reduceBEq, Nat.reduceLeDiff, ↓reduceIte, reduceCtorEq, Int.reduceAdd, Int.reduceSub, Int.reduceLT, Int.reduceLE, Int.reduceBEq, Int.reduceEq, Int.reduceToNat, t0, t1, t7, t12, ↓cv_op, hcp, hcq, sb_neq, undefV]
      refine GCall.of (xdisk_ok (hu1.old K7).x (by simp)).any ?_
      rintro v g8 ⟨rfl, rfl⟩
      simp -implicitDefEqProofs (disch := (first | omega | (simp -implicitDefEqProofs only [Heap.n_push, Heap.n_set, Blk.size_set, Blk.size_puts, Blk.size_putA, w_of_size, w_rep_size, List.length_cons, List.length_nil, ne_eq] <;> omega) | fail)) only [go_sem, Nat.reduceAdd, Nat.reduceSub, Nat.reduceMul, Nat.reduceLT, Nat.reduceMod, Nat.reduceDiv, Nat.reduceEqDiff, Nat.reduceBEq, Nat.reduceLeDiff, ↓reduceIte, reduceCtorEq, Int.reduceAdd, Int.reduceSub, Int.reduceLT, Int.reduceLE, Int.reduceBEq, Int.reduceEq, Int.reduceToNat, t0, t1, t7, t12, hcast]
      refine GCall.of (pending_ok (hu1.old K7).d (fun _ _ => by simp) hud).any ?_
      rintro v g8 ⟨rfl, rfl⟩
      simp -implicitDefEqProofs (disch := (first | omega | (simp -implicitDefEqProofs only [Heap.n_push, Heap.n_set, Blk.size_set, Blk.size_puts, Blk.size_putA, w_of_size, w_rep_size, List.length_cons, List.length_nil, ne_eq] <;> omega) | fail)) only [go_sem, Nat.reduceAdd, Nat.reduceSub, Nat.reduceMul, Nat.reduceLT, Nat.reduceMod, Nat.reduceDiv, Nat.reduceEqDiff, Nat.reduceBEq, Nat.reduceLeDiff, ↓reduceIte, reduceCtorEq, Int.reduceAdd, Int.reduceSub, Int.reduceLT, Int.reduceLE, Int.reduceBEq, Int.reduceEq, Int.reduceToNat, t0, t1, t7, t12, undefV]
      refine GCall.of (xdisk_ok (hw1.old K7).x (by simp)).any ?_
      rintro v g8 ⟨rfl, rfl⟩
      simp -implicitDefEqProofs (disch := (first | omega | (simp -implicitDefEqProofs only [Heap.n_push, Heap.n_set, Blk.size_set, Blk.size_puts, Blk.size_putA, w_of_size, w_rep_size, List.length_cons, List.length_nil, ne_eq] <;> omega) | fail)) only [go_sem, Nat.reduceAdd, Nat.reduceSub, Nat.reduceMul, Nat.reduceLT, Nat.reduceMod, Nat.reduceDiv, Nat.reduceEqDiff, Nat.reduceBEq, Nat.reduceLeDiff, ↓reduceIte, reduceCtorEq, Int.reduceAdd, Int.reduceSub, Int.reduceLT, Int.reduceLE, Int.reduceBEq, Int.reduceEq, Int.reduceToNat, t0, t1, t7, t12, hcast]
      refine GCall.of (pending_ok (hw1.old K7).d (fun _ _ => by simp) hwd).any ?_
      rintro v g8 ⟨rfl, rfl⟩
      rw [← hpe]
      simp -implicitDefEqProofs (disch := (first | omega | (simp -implicitDefEqProofs only [Heap.n_push, Heap.n_set, Blk.size_set, Blk.size_puts, Blk.size_putA, w_of_size, w_rep_size, List.length_cons, List.length_nil, ne_eq] <;> omega) | fail)) only [go_sem, Nat.reduceAdd, Nat.reduceSub, Nat.reduceMul, Nat.reduceLT, Nat.reduceMod, Nat.reduceDiv, Nat.reduceEqDiff, Nat.reduceBEq, Nat.reduceLeDiff, ↓reduceIte, reduceCtorEq, Int.reduceAdd, Int.reduceSub, Int.reduceLT, Int.reduceLE, Int.reduceBEq, Int.reduceEq, Int.reduceToNat, t0, t1, t7, t12, undefV]
      exact ⟨k - 1, by omega, by omega, fun b hb => by rw [K7 b (by omega), hold b hb], i + 1, by omega, congrArg _ (by omega)⟩
    | false =>
      have hb2 : w.X.has 1 i = false := by rw [← z.has]; exact hb
      have o1 : ¬ u.X.own ((1 : Nat) : Int) (i : Int) := fun h => by
        have := h.2.2.2
        simp only [Int.toNat_natCast] at this
        rw [hb] at this; cases this
      have o2 : ¬ w.X.own ((1 : Nat) : Int) (i : Int) := fun h => by
        have := h.2.2.2
        simp only [Int.toNat_natCast] at this
        rw [hb2] at this; cases this
      have e1 : u.X.err ((1 : Nat) : Int) = 6 := by unfold XS.err; rw [if_pos (by omega)]
      have e2 : w.X.err ((1 : Nat) : Int) = 6 := by unfold XS.err; rw [if_pos (by omega)]
      simp -implicitDefEqProofs (disch := (first | omega | (simp -implicitDefEqProofs only [Heap.n_push, Heap.n_set, Blk.size_set, Blk.size_puts, Blk.size_putA, w_of_size, w_rep_size, List.length_cons, List.length_nil, ne_eq] <;> omega) | fail)) only [go_sem, Nat.reduceAdd, Nat.reduceSub, Nat.reduceMul, Nat.reduceLT, Nat.reduceMod, Nat.reduceDiv, Nat.reduceEqDiff, Nat.reduceBEq, Nat.reduceLeDiff, ↓reduceIte, reduceCtorEq, Int.reduceAdd, Int.reduceSub, Int.reduceLT, Int.reduceLE, Int.reduceBEq, Int.reduceEq, Int.reduceToNat, ir17_l0, t0, t1, t7, t12]
      refine GCall.of (xread_bad hu1.x (fun _ _ => by simp) o1).any ?_
      rintro v g2 ⟨rfl, rfl⟩
      rw [e1]
      simp -implicitDefEqProofs (disch := (first | omega | (simp -implicitDefEqProofs only [Heap.n_push, Heap.n_set, Blk.size_set, Blk.size_puts, Blk.size_putA, w_of_size, w_rep_size, List.length_cons, List.length_nil, ne_eq] <;> omega) | fail)) only [go_sem, Nat.reduceAdd, Nat.reduceSub, Nat.reduceMul, Nat.reduceLT, Nat.reduceMod, Nat.reduceDiv, Nat.reduceEqDiff, Nat.reduceBEq, Nat.reduceLeDiff, ↓reduceIte, reduceCtorEq, Int.reduceAdd, Int.reduceSub, Int.reduceLT, Int.reduceLE, Int.reduceBEq, Int.reduceEq, Int.reduceToNat, t0, t1, t7, t12]
      refine GCall.of (xread_bad hw1.x (fun _ _ => by simp) o2).any ?_
      rintro v g3 ⟨rfl, rfl⟩
      rw [e2]
      have K3 : ∀ b, b < g3.n → g3.get b = g3.get b := fun b hb => rfl
      have n3 : g3.n ≤ g3.n := Nat.le_refl _
      simp -implicitDefEqProofs (disch := (first | omega | (simp -implicitDefEqProofs only [Heap.n_push, Heap.n_set, Blk.size_set, Blk.size_puts, Blk.size_putA, w_of_size, w_rep_size, List.length_cons, List.length_nil, ne_eq] <;> omega) | fail)) only [go_sem, Nat.reduceAdd, Nat.reduceSub, Nat.reduceMul, Nat.reduceLT, Nat.reduceMod, Nat.reduceDiv, Nat.reduceEqDiff, Nat.reduceBEq, Nat.reduceLeDiff, ↓reduceIte, reduceCtorEq, Int.reduceAdd, Int.reduceSub, Int.reduceLT, Int.reduceLE, Int.reduceBEq, Int.reduceEq, Int.reduceToNat, t0, t1, t7, t12]
      refine GCall.of (xdisk_ok (hu1.old K3).x (by simp)).any ?_
      rintro v g4 ⟨rfl, rfl⟩
      simp -implicitDefEqProofs (disch := (first | omega | (simp -implicitDefEqProofs only [Heap.n_push, Heap.n_set, Blk.size_set, Blk.size_puts, Blk.size_putA, w_of_size, w_rep_size, List.length_cons, List.length_nil, ne_eq] <;> omega) | fail)) only [go_sem, Nat.reduceAdd, Nat.reduceSub, Nat.reduceMul, Nat.reduceLT, Nat.reduceMod, Nat.reduceDiv, Nat.reduceEqDiff, Nat.reduceBEq, Nat.reduceLeDiff, ↓reduceIte, reduceCtorEq, Int.reduceAdd, Int.reduceSub, Int.reduceLT, Int.reduceLE, Int.reduceBEq, Int.reduceEq, Int.reduceToNat, t0, t1, t7, t12, hcast]
      refine GCall.of (flushed_ok (hu1.old K3).d (fun _ _ => by simp) hud).any ?_
      rintro v g5 ⟨bp, rfl, hs5, b5l, b5u, h5⟩
      have K5 : ∀ b, b < g4.n → g5.get b = g4.get b := fun b hb => by rw [h5 b (by omega), K3 b hb]
      simp -implicitDefEqProofs (disch := (first | omega | (simp -implicitDefEqProofs only [Heap.n_push, Heap.n_set, Blk.size_set, Blk.size_puts, Blk.size_putA, w_of_size, w_rep_size, List.length_cons, List.length_nil, ne_eq] <;> omega) | fail)) only [go_sem, Nat.reduceAdd, Nat.reduceSub, Nat.reduceMul, Nat.reduceLT, Nat.reduceMod, Nat.reduceDiv, Nat.reduceEqDiff, Nat.reduceBEq, Nat.reduceLeDiff, ↓reduceIte, reduceCtorEq, Int.reduceAdd, Int.reduceSub, Int.reduceLT, Int.reduceLE, Int.reduceBEq, Int.reduceEq, Int.reduceToNat, t0, t1, t7, t12]
      refine GCall.of (xdisk_ok (hw1.old K5).x (by simp)).any ?_
      rintro v g6 ⟨rfl, rfl⟩
      simp -implicitDefEqProofs (disch := (first | omega | (simp -implicitDefEqProofs only [Heap.n_push, Heap.n_set, Blk.size_set, Blk.size_puts, Blk.size_putA, w_of_size, w_rep_size, List.length_cons, List.length_nil, ne_eq] <;> omega) | fail)) only [go_sem, Nat.reduceAdd, Nat.reduceSub, Nat.reduceMul, Nat.reduceLT, Nat.reduceMod, Nat.reduceDiv, Nat.reduceEqDiff, Nat.reduceBEq, Nat.reduceLeDiff, ↓reduceIte, reduceCtorEq, Int.reduceAdd, Int.reduceSub, Int.reduceLT, Int.reduceLE, Int.reduceBEq, Int.reduceEq, Int.reduceToNat, t0, t1, t7, t12, hcast]
      refine GCall.of (flushed_ok (hw1.old K5).d (fun _ _ => by simp) hwd).any ?_
      rintro v g7 ⟨bq, rfl, hs7, b7l, b7u, h7⟩
      have K7 : ∀ b, b < g4.n → g7.get b = g4.get b := fun b hb => by rw [h7 b (by omega), K5 b hb]
      have hcp := (hs5.old h7).conv (hu.d.fl _ hud)
      have hcq := hs7.conv (hw.d.fl _ hwd)
      rw [← hfl] at hcq
      have hca := conv_nil g7
      have hcb := hca
      simp -implicitDefEqProofs (disch := (first | omega | (simp -implicitDefEqProofs only [Heap.n_push, Heap.n_set, Blk.size_set, Blk.size_puts, Blk.size_putA, w_of_size, w_rep_size, List.length_cons, List.length_nil, ne_eq] <;> omega) | fail)) only [go_sem, Nat.reduceAdd, Nat.reduceSub, Nat.reduceMul, Nat.reduceLT, Nat.reduceMod, Nat.reduceDiv, Nat.reduceEqDiff, Nat.reduceBEq, Nat.reduceLeDiff, ↓reduceIte, reduceCtorEq, Int.reduceAdd, Int.reduceSub, Int.reduceLT, Int.reduceLE, Int.reduceBEq, Int.reduceEq, Int.reduceToNat, t0, t1, t7, t12, ↓cv_op, hca, hcb, sb_neq, undefV]
      refine GCall.of (num_ok _).any ?_
      rintro v g8 ⟨rfl, rfl⟩
      simp -implicitDefEqProofs (disch := (first | omega | (simp -implicitDefEqProofs only [Heap.n_push, Heap.n_set, Blk.size_set, Blk.size_puts, Blk.size_putA, w_of_size, w_rep_size, List.length_cons, List.length_nil, ne_eq] <;> omega) | fail)) only [go_sem, Nat.reduceAdd, Nat.reduceSub, Nat.reduceMul, Nat.reduceLT, Nat.reduceMod, Nat.reduceDiv, Nat.reduceEqDiff, Nat.reduceBEq, Nat.reduceLeDiff, ↓reduceIte, reduceCtorEq, Int.reduceAdd, Int.reduceSub, Int.reduceLT, Int.reduceLE, Int.reduceBEq, Int.reduceEq, Int.reduceToNat, t0, t1, t7, t12, undefV]
      refine GCall.of (num_ok _).any ?_
      rintro v g8 ⟨rfl, rfl⟩
      simp -implicitDefEqProofs (disch := (first | omega | (simp -implicitDefEqProofs only [Heap.n_push, Heap.n_set, Blk.size_set, Blk.size_puts, Blk.size_putA, w_of_size, w_rep_size, List.length_cons, List.length_nil, ne_eq] <;> omega) | fail)) only [go_sem, Nat.reduceAdd, Nat.reduceSub, Nat.reduceMul, Nat.reduceLT, Nat.reduceMod, Nat.reduceDiv, Nat.reduceEqDiff, Nat.reduceBEq, Nat.reduceLeDiff, ↓reduceIte, reduceCtorEq, Int.reduceAdd, Int.reduceSub, Int.reduceLT, Int.reduceLE, Int.reduceBEq, Int.reduceEq, Int.reduceToNat, t0, t1, t7, t12, ↓cv_op, hcp, hcq, sb_neq, undefV]
      refine GCall.of (xdisk_ok (hu1.old K7).x (by simp)).any ?_
      rintro v g8 ⟨rfl, rfl⟩
      simp -implicitDefEqProofs (disch := (first | omega | (simp -implicitDefEqProofs only [Heap.n_push, Heap.n_set, Blk.size_set, Blk.size_puts, Blk.size_putA, w_of_size, w_rep_size, List.length_cons, List.length_nil, ne_eq] <;> omega) | fail)) only [go_sem, Nat.reduceAdd, Nat.reduceSub, Nat.reduceMul, Nat.reduceLT, Nat.reduceMod, Nat.reduceDiv, Nat.reduceEqDiff, Nat.reduceBEq, Nat.reduceLeDiff, ↓reduceIte, reduceCtorEq, Int.reduceAdd, Int.reduceSub, Int.reduceLT, Int.reduceLE, Int.reduceBEq, Int.reduceEq, Int.reduceToNat, t0, t1, t7, t12, hcast]
      refine GCall.of (pending_ok (hu1.old K7).d (fun _ _ => by simp) hud).any ?_
      rintro v g8 ⟨rfl, rfl⟩
      simp -implicitDefEqProofs (disch := (first | omega | (simp -implicitDefEqProofs only [Heap.n_push, Heap.n_set, Blk.size_set, Blk.size_puts, Blk.size_putA, w_of_size, w_rep_size, List.length_cons, List.length_nil, ne_eq] <;> omega) | fail)) only [go_sem, Nat.reduceAdd, Nat.reduceSub, Nat.reduceMul, Nat.reduceLT, Nat.reduceMod, Nat.reduceDiv, Nat.reduceEqDiff, Nat.reduceBEq, Nat.reduceLeDiff, ↓reduceIte, reduceCtorEq, Int.reduceAdd, Int.reduceSub, Int.reduceLT, Int.reduceLE, Int.reduceBEq, Int.reduceEq, Int.reduceToNat, t0, t1, t7, t12, undefV]
      refine GCall.of (xdisk_ok (hw1.old K7).x (by simp)).any ?_
      rintro v g8 ⟨rfl, rfl⟩
      simp -implicitDefEqProofs (disch := (first | omega | (simp -implicitDefEqProofs only [Heap.n_push, Heap.n_set, Blk.size_set, Blk.size_puts, Blk.size_putA, w_of_size, w_rep_size, List.length_cons, List.length_nil, ne_eq] <;> omega) | fail)) only [go_sem, Nat.reduceAdd, Nat.reduceSub, Nat.reduceMul, Nat.reduceLT, Nat.reduceMod, Nat.reduceDiv, Nat.reduceEqDiff, Nat.reduceBEq, Nat.reduceLeDiff, ↓reduceIte, reduceCtorEq, Int.reduceAdd, Int.reduceSub, Int.reduceLT, Int.reduceLE, Int.reduceBEq, Int.reduceEq, Int.reduceToNat, t0, t1, t7, t12, hcast]
      refine GCall.of (pending_ok (hw1.old K7).d (fun _ _ => by simp) hwd).any ?_
      rintro v g8 ⟨rfl, rfl⟩
      rw [← hpe]
      simp -implicitDefEqProofs (disch := (first | omega | (simp -implicitDefEqProofs only [Heap.n_push, Heap.n_set, Blk.size_set, Blk.size_puts, Blk.size_putA, w_of_size, w_rep_size, List.length_cons, List.length_nil, ne_eq] <;> omega) | fail)) only [go_sem, Nat.reduceAdd, Nat.reduceSub, Nat.reduceMul, Nat.reduceLT, Nat.reduceMod, Nat.reduceDiv, Nat.reduceEqDiff, Nat.reduceBEq, Nat.reduceLeDiff, ↓reduceIte, reduceCtorEq, Int.reduceAdd, Int.reduceSub, Int.reduceLT, Int.reduceLE, Int.reduceBEq, Int.reduceEq, Int.reduceToNat, t0, t1, t7, t12, undefV]
      exact ⟨k - 1, by omega, by omega, fun b hb => by rw [K7 b (by omega), hold b hb], i + 1, by omega, congrArg _ (by omega)⟩
  · have : i = 8 := by omega
    subst this
    simp -implicitDefEqProofs (disch := (first | omega | (simp -implicitDefEqProofs only [Heap.n_push, Heap.n_set, Blk.size_set, Blk.size_puts, Blk.size_putA, w_of_size, w_rep_size, List.length_cons, List.length_nil, ne_eq] <;> omega) | fail)) only [go_sem, Nat.reduceAdd, Nat.reduceSub, Nat.reduceMul, Nat.reduceLT, Nat.reduceMod, Nat.reduceDiv, Nat.reduceEqDiff, Nat.reduceBEq, Nat.reduceLeDiff, ↓reduceIte, reduceCtorEq, Int.reduceAdd, Int.reduceSub, Int.reduceLT, Int.reduceLE, Int.reduceBEq, Int.reduceEq, Int.reduceToNat, ir17_l0, t0, t1, t7, t12]
    exact hk _ g1 (by simp -implicitDefEqProofs (disch := (first | omega | (simp -implicitDefEqProofs only [Heap.n_push, Heap.n_set, Blk.size_set, Blk.size_puts, Blk.size_putA, w_of_size, w_rep_size, List.length_cons, List.length_nil, ne_eq] <;> omega) | fail)) only [go_sem, Nat.reduceAdd, Nat.reduceSub, Nat.reduceMul, Nat.reduceLT, Nat.reduceMod, Nat.reduceDiv, Nat.reduceEqDiff, Nat.reduceBEq, Nat.reduceLeDiff, ↓reduceIte, reduceCtorEq, Int.reduceAdd, Int.reduceSub, Int.reduceLT, Int.reduceLE, Int.reduceBEq, Int.reduceEq, Int.reduceToNat, t0]) (by simp -implicitDefEqProofs (disch := (first | omega | (simp -implicitDefEqProofs only [Heap.n_push, Heap.n_set, Blk.size_set, Blk.size_puts, Blk.size_putA, w_of_size, w_rep_size, List.length_cons, List.length_nil, ne_eq] <;> omega) | fail)) only [go_sem, Nat.reduceAdd, Nat.reduceSub, Nat.reduceMul, Nat.reduceLT, Nat.reduceMod, Nat.reduceDiv, Nat.reduceEqDiff, Nat.reduceBEq, Nat.reduceLeDiff, ↓reduceIte, reduceCtorEq, Int.reduceAdd, Int.reduceSub, Int.reduceLT, Int.reduceLE, Int.reduceBEq, Int.reduceEq, Int.reduceToNat, t1]) (by simp -implicitDefEqProofs (disch := (first | omega | (simp -implicitDefEqProofs only [Heap.n_push, Heap.n_set, Blk.size_set, Blk.size_puts, Blk.size_putA, w_of_size, w_rep_size, List.length_cons, List.length_nil, ne_eq] <;> omega) | fail)) only [go_sem, Nat.reduceAdd, Nat.reduceSub, Nat.reduceMul, Nat.reduceLT, Nat.reduceMod, Nat.reduceDiv, Nat.reduceEqDiff, Nat.reduceBEq, Nat.reduceLeDiff, ↓reduceIte, reduceCtorEq, Int.reduceAdd, Int.reduceSub, Int.reduceLT, Int.reduceLE, Int.reduceBEq, Int.reduceEq, Int.reduceToNat, t7]) hgn hold
end Go.Proofs.Ythdkhbhicimpdaa
set_option maxRecDepth 100000
set_option linter.unusedVariables false
namespace Go.Proofs.Ythdkhbhicimpdaa
open Go Go.Vm
attribute [-go_sem] sz_113
theorem alike_tail {g : Heap} {n0 : Nat} {W : Set'} {u w : UU} {P : V → Heap → Prop} (hu : AtU g u) (hw : AtU g w) (z : Sim u w) (hn0 : n0 ≤ g.n) (hP : ∀ g', g.n ≤ g'.n → (∀ b, b < g.n → g'.get b = g.get b) → P (.bool true) g')
    {tr : Tr V} (t0 : tr.get 0 = some (.ptr (some (u.bx, 0)))) (t1 : tr.get 1 = some (.ptr (some (w.bx, 0)))) (t7 : tr.get 7 = some (.bool true)) :
    GO ⟨Try.prog, true⟩ (fun _ => True) (fun b => n0 ≤ b ∨ W b) none (Vm.Fin ⟨Try.prog, true⟩ (fun _ => True) (fun b => n0 ≤ b ∨ W b) [ResultVar.tmp 6] P) [.code ir17_t] ⟨⟨164, tr⟩, []⟩ g := by
  simp -implicitDefEqProofs (disch := (first | omega | (simp -implicitDefEqProofs only [Heap.n_push, Heap.n_set, Blk.size_set, Blk.size_puts, Blk.size_putA, w_of_size, w_rep_size, List.length_cons, List.length_nil, ne_eq] <;> omega) | fail)) only [go_sem, Nat.reduceAdd, Nat.reduceSub, Nat.reduceMul, Nat.reduceLT, Nat.reduceMod, Nat.reduceDiv, Nat.reduceEqDiff, Nat.reduceBEq, Nat.reduceLeDiff, ↓reduceIte, reduceCtorEq, Int.reduceAdd, Int.reduceSub, Int.reduceLT, Int.reduceLE, Int.reduceBEq, Int.reduceEq, Int.reduceToNat, ir17_t, LC.snd, ir17, t0, t1, t7]
  refine alike_loop hu hw z ?_ (by simp -implicitDefEqProofs (disch := (first | omega | (simp -implicitDefEqProofs only [Heap.n_push, Heap.n_set, Blk.size_set, Blk.size_puts, Blk.size_putA, w_of_size, w_rep_size, List.length_cons, List.length_nil, ne_eq] <;> omega) | fail)) only [go_sem, Nat.reduceAdd, Nat.reduceSub, Nat.reduceMul, Nat.reduceLT, Nat.reduceMod, Nat.reduceDiv, Nat.reduceEqDiff, Nat.reduceBEq, Nat.reduceLeDiff, ↓reduceIte, reduceCtorEq, Int.reduceAdd, Int.reduceSub, Int.reduceLT, Int.reduceLE, Int.reduceBEq, Int.reduceEq, Int.reduceToNat, t0]) (by simp -implicitDefEqProofs (disch := (first | omega | (simp -implicitDefEqProofs only [Heap.n_push, Heap.n_set, Blk.size_set, Blk.size_puts, Blk.size_putA, w_of_size, w_rep_size, List.length_cons, List.length_nil, ne_eq] <;> omega) | fail)) only [go_sem, Nat.reduceAdd, Nat.reduceSub, Nat.reduceMul, Nat.reduceLT, Nat.reduceMod, Nat.reduceDiv, Nat.reduceEqDiff, Nat.reduceBEq, Nat.reduceLeDiff, ↓reduceIte, reduceCtorEq, Int.reduceAdd, Int.reduceSub, Int.reduceLT, Int.reduceLE, Int.reduceBEq, Int.reduceEq, Int.reduceToNat, t1]) (by simp -implicitDefEqProofs (disch := (first | omega | (simp -implicitDefEqProofs only [Heap.n_push, Heap.n_set, Blk.size_set, Blk.size_puts, Blk.size_putA, w_of_size, w_rep_size, List.length_cons, List.length_nil, ne_eq] <;> omega) | fail)) only [go_sem, Nat.reduceAdd, Nat.reduceSub, Nat.reduceMul, Nat.reduceLT, Nat.reduceMod, Nat.reduceDiv, Nat.reduceEqDiff, Nat.reduceBEq, Nat.reduceLeDiff, ↓reduceIte, reduceCtorEq, Int.reduceAdd, Int.reduceSub, Int.reduceLT, Int.reduceLE, Int.reduceBEq, Int.reduceEq, Int.reduceToNat, t7]) (by simp -implicitDefEqProofs (disch := (first | omega | (simp -implicitDefEqProofs only [Heap.n_push, Heap.n_set, Blk.size_set, Blk.size_puts, Blk.size_putA, w_of_size, w_rep_size, List.length_cons, List.length_nil, ne_eq] <;> omega) | fail)) only [go_sem, Nat.reduceAdd, Nat.reduceSub, Nat.reduceMul, Nat.reduceLT, Nat.reduceMod, Nat.reduceDiv, Nat.reduceEqDiff, Nat.reduceBEq, Nat.reduceLeDiff, ↓reduceIte, reduceCtorEq, Int.reduceAdd, Int.reduceSub, Int.reduceLT, Int.reduceLE, Int.reduceBEq, Int.reduceEq, Int.reduceToNat])
  intro tr g1 t0 t1 t7 hgn hold
  have hu1 := hu.old hold
  have hw1 := hw.old hold
  simp -implicitDefEqProofs (disch := (first | omega | (simp -implicitDefEqProofs only [Heap.n_push, Heap.n_set, Blk.size_set, Blk.size_puts, Blk.size_putA, w_of_size, w_rep_size, List.length_cons, List.length_nil, ne_eq] <;> omega) | fail)) only [go_sem, Nat.reduceAdd, Nat.reduceSub, Nat.reduceMul, Nat.reduceLT, Nat.reduceMod, Nat.reduceDiv, Nat.reduceEqDiff, Nat.reduceBEq, Nat.reduceLeDiff, ↓reduceIte, reduceCtorEq, Int.reduceAdd, Int.reduceSub, Int.reduceLT, Int.reduceLE, Int.reduceBEq, Int.reduceEq, Int.reduceToNat, t0, t1, t7, undefV]
  refine GCall.of (((taken_ok (R := fun _ => True) (W := fun _ => False) hu1.x (fun _ => trivial) (a := 1) (by rw [z.su.n]; omega)).kept).foot (fun _ h => h) (fun _ h => h.elim)) ?_
  rintro v g2 ⟨⟨rfl, h2⟩, vf2⟩
  simp -implicitDefEqProofs (disch := (first | omega | (simp -implicitDefEqProofs only [Heap.n_push, Heap.n_set, Blk.size_set, Blk.size_puts, Blk.size_putA, w_of_size, w_rep_size, List.length_cons, List.length_nil, ne_eq] <;> omega) | fail)) only [go_sem, Nat.reduceAdd, Nat.reduceSub, Nat.reduceMul, Nat.reduceLT, Nat.reduceMod, Nat.reduceDiv, Nat.reduceEqDiff, Nat.reduceBEq, Nat.reduceLeDiff, ↓reduceIte, reduceCtorEq, Int.reduceAdd, Int.reduceSub, Int.reduceLT, Int.reduceLE, Int.reduceBEq, Int.reduceEq, Int.reduceToNat, t0, t1, t7, undefV]
  refine GCall.of (((taken_ok (R := fun _ => True) (W := fun _ => False) (hw1.old h2).x (fun _ => trivial) (a := 1) (by rw [z.sw.n]; omega)).kept).foot (fun _ h => h) (fun _ h => h.elim)) ?_
  rintro v g3 ⟨⟨rfl, h3⟩, vf3⟩
  rw [← z.has, z.su.count 1 (by omega), z.sw.count 1 (by omega)]
  have n2 := vf2.n
  have n3 := vf3.n
  simp -implicitDefEqProofs (disch := (first | omega | (simp -implicitDefEqProofs only [Heap.n_push, Heap.n_set, Blk.size_set, Blk.size_puts, Blk.size_putA, w_of_size, w_rep_size, List.length_cons, List.length_nil, ne_eq] <;> omega) | fail)) only [go_sem, Nat.reduceAdd, Nat.reduceSub, Nat.reduceMul, Nat.reduceLT, Nat.reduceMod, Nat.reduceDiv, Nat.reduceEqDiff, Nat.reduceBEq, Nat.reduceLeDiff, ↓reduceIte, reduceCtorEq, Int.reduceAdd, Int.reduceSub, Int.reduceLT, Int.reduceLE, Int.reduceBEq, Int.reduceEq, Int.reduceToNat, t0, t1, t7, undefV]
  exact hP g3 (by omega) fun b hb => by rw [h3 b (by omega), h2 b (by omega), hold b hb]
/-- Both, behind a step. -/
structure Two (n : Nat) (u w u' w' : UU) (h' : Heap) : Prop where
  au : AtU h' u'
  aw : AtU h' w'
  sim : Sim u' w'
  bx : u'.bx = u.bx ∧ w'.bx = w.bx
  few : ∀ s, (u'.D.pe s).length ≤ (u.D.pe s).length + 1 ∧ (w'.D.pe s).length ≤ (w.D.pe s).length + 1
  ap : Apart u' w'
  fu : ∀ b, u'.foot b → u.foot b ∨ n ≤ b
  fw : ∀ b, w'.foot b → w.foot b ∨ n ≤ b
theorem Two.old {n : Nat} {u w u' w' : UU} {h h' : Heap} (d : Two n u w u' w' h) (hk : ∀ b, b < h.n → h'.get b = h.get b) : Two n u w u' w' h' := ⟨d.au.old hk, d.aw.old hk, d.sim, d.bx, d.few, d.ap, d.fu, d.fw⟩
theorem Two.refl {n : Nat} {u w : UU} {h : Heap} (hu : AtU h u) (hw : AtU h w) (z : Sim u w) (ap : Apart u w) : Two n u w u w h := ⟨hu, hw, z, ⟨rfl, rfl⟩, fun _ => ⟨Nat.le_succ _, Nat.le_succ _⟩, ap, fun _ h => .inl h, fun _ h => .inl h⟩
/-- Two steps that stay in their own places. -/
theorem Two.mk' {n : Nat} {u w u' w' : UU} {h h2 h3 : Heap} (hn : n ≤ h.n) (hu : AtU h u) (hw : AtU h w) (ap : Apart u w) (hu2 : AtU h2 u') (v2 : VF h h2 u.foot) (hw3 : AtU h3 w') (v3 : VF h2 h3 w.foot) (z : Sim u' w') (bx : u'.bx = u.bx ∧ w'.bx = w.bx) (few : ∀ s, (u'.D.pe s).length ≤ (u.D.pe s).length + 1 ∧ (w'.D.pe s).length ≤ (w.D.pe s).length + 1)
    (fu : ∀ b, u'.foot b → u.foot b ∨ h.n ≤ b) (fw : ∀ b, w'.foot b → w.foot b ∨ h2.n ≤ b) : Two n u w u' w' h3 := by
  have n2 := v2.n
  have hlt := hu2.lt
  have hlw := hw.lt
  refine ⟨hu2.same fun b hb hb2 => v3.get b hb2 fun h => ?_, hw3, z, bx, few, fun b h1 h2' => ?_, fun b hb => (fu b hb).imp id fun h => by omega, fun b hb => (fw b hb).imp id fun h => by omega⟩
  · rcases fu b hb with h1 | h1
    · exact ap b h1 h
    · have := hlw b h; omega
  · have := hlt b h1
    rcases fw b h2' with h3' | h3'
    · rcases fu b h1 with h4 | h4
      · exact ap b h4 h3'
      · have := hlw b h3'; omega
    · omega
theorem VF.other {h h2 : Heap} {u w : UU} (hw : AtU h w) (ap : Apart u w) (v2 : VF h h2 u.foot) : AtU h2 w := hw.same fun b hb hb2 => v2.get b hb2 fun h => ap b h hb
theorem took_eq {u w : UU} (z : Sim u w) (n : Nat) (r : Option Nat) : (u.X.took 1 n r).has 1 = (w.X.took 1 n r).has 1 := by
  cases r with
  | none => exact z.has
  | some f =>
    funext s
    simp only [XS.took, XS.fill, true_and, congrFun z.has s]
theorem fill_eq {u w : UU} (z : Sim u w) (f n : Nat) (b : Bool) : (u.X.fill 1 f n b).has 1 = (w.X.fill 1 f n b).has 1 := by
  funext s
  simp only [XS.fill, true_and, congrFun z.has s]
theorem Sim.withX {u w : UU} (z : Sim u w) {X Y : XS} (h1 : X.n = u.X.n ∧ X.first = u.X.first ∧ X.count = u.X.count) (h2 : Y.n = w.X.n ∧ Y.first = w.X.first ∧ Y.count = w.X.count) (he : X.has 1 = Y.has 1) : Sim (u.withX X) (w.withX Y) :=
  ⟨z.su.withX h1.1 h1.2.1 h1.2.2, z.sw.withX h2.1 h2.2.1 h2.2.2, he, z.fl⟩
theorem Sim.write {u w : UU} (z : Sim u w) (s : Nat) (nb nb' : Nat) (l : List V) : Sim (u.write s nb l) (w.write s nb' l) := by
  refine ⟨z.su.write _ _ _, z.sw.write _ _ _, z.has, fun t h1 h2 => ?_⟩
  obtain ⟨e1, e2⟩ := z.fl t h1 h2
  simp only [UU.write, DS.write]
  refine ⟨e1, ?_⟩
  split
  · rename_i e; rw [← e, e2]
  · exact e2
theorem Sim.flush {u w : UU} (z : Sim u w) : Sim (u.flush 8 8) (w.flush 8 8) := by
  refine ⟨z.su.flush _ _, z.sw.flush _ _, z.has, fun t h1 h2 => ?_⟩
  obtain ⟨e1, e2⟩ := z.fl t h1 h2
  have e3 := z.seen h1 h2
  simp only [UU.flush, DS.flush]
  rw [if_pos (by omega), if_pos (by omega), if_pos (by omega), if_pos (by omega)]
  exact ⟨e3, rfl⟩
theorem own_eq {u w : UU} (z : Sim u w) (s : Int) : u.X.own ((1 : Nat) : Int) s ↔ w.X.own ((1 : Nat) : Int) s := by
  unfold XS.own
  have h1 := z.su.n
  have h2 := z.sw.n
  have h3 := z.su.count 1 (by omega)
  have h4 := z.sw.count 1 (by omega)
  have h5 := z.has
  simp only [Int.toNat_natCast, h1, h2, h3, h4, h5]
set_option maxHeartbeats 4000000 in
theorem alike_ok {H h : Heap} {u w : UU} (hu : AtU h u) (hw : AtU h w) (z : Sim u w) (ap : Apart u w) (few : ∀ s, (u.D.pe s).length < 1000000 ∧ (w.D.pe s).length < 1000000) (hH : H.n ≤ h.n) (hold : ∀ b, b < H.n → h.get b = H.get b) (hf : ∀ b, u.foot b ∨ w.foot b → H.n ≤ b) {kd n1 n2 n3 : Int} {d kv : V} (hst : StepIs H n1 n2 n3 d kv) :
    SF ⟨Try.prog, true⟩ 17 [.ptr (some (u.bx, 0)), .ptr (some (w.bx, 0)), .agg [.int .i64 kd, .int .i64 n1, .int .i64 n2, .int .i64 n3, d, kv]] h (fun _ => True) (fun b => u.foot b ∨ w.foot b) fun r h' => r = .bool true ∧ ∃ u' w', Two h.n u w u' w' h' := by
  obtain ⟨⟨l, hd⟩, ⟨mk, ks, kw, hk⟩, ⟨hb1, hb2, hb3⟩⟩ := hst
  unfold i64B at hb1 hb2 hb3
  have hone1 := hd.one
  have hone2 := hk.one
  have hd0 : BytesV h (fun b => b < H.n) d l := by
    refine ⟨hd.1, hd.2.1, hd.2.2.imp id ?_⟩
    rintro ⟨b, o, cap, ex, c, ce, e, _, hb, hs⟩
    exact ⟨b, o, cap, ex, c, ce, e, Heap.lt_of_get hb, by rw [hold b (Heap.lt_of_get hb)]; exact hb, hs⟩
  have hd1 : BytesV (h.push (.cells (Blk.of [.int .i64 kd, .int .i64 n1, .int .i64 n2, .int .i64 n3, d, kv]) 48)) (fun b => b < H.n) d l := hd0.old fun b hb => by simp -implicitDefEqProofs (disch := (first | omega | (simp -implicitDefEqProofs only [Heap.n_push, Heap.n_set, Blk.size_set, Blk.size_puts, Blk.size_putA, w_of_size, w_rep_size, List.length_cons, List.length_nil, ne_eq] <;> omega) | fail)) only [go_sem, Nat.reduceAdd, Nat.reduceSub, Nat.reduceMul, Nat.reduceLT, Nat.reduceMod, Nat.reduceDiv, Nat.reduceEqDiff, Nat.reduceBEq, Nat.reduceLeDiff, ↓reduceIte, reduceCtorEq, Int.reduceAdd, Int.reduceSub, Int.reduceLT, Int.reduceLE, Int.reduceBEq, Int.reduceEq, Int.reduceToNat]
  have hu1 : AtU (h.push (.cells (Blk.of [.int .i64 kd, .int .i64 n1, .int .i64 n2, .int .i64 n3, d, kv]) 48)) u := hu.old fun b hb => by simp -implicitDefEqProofs (disch := (first | omega | (simp -implicitDefEqProofs only [Heap.n_push, Heap.n_set, Blk.size_set, Blk.size_puts, Blk.size_putA, w_of_size, w_rep_size, List.length_cons, List.length_nil, ne_eq] <;> omega) | fail)) only [go_sem, Nat.reduceAdd, Nat.reduceSub, Nat.reduceMul, Nat.reduceLT, Nat.reduceMod, Nat.reduceDiv, Nat.reduceEqDiff, Nat.reduceBEq, Nat.reduceLeDiff, ↓reduceIte, reduceCtorEq, Int.reduceAdd, Int.reduceSub, Int.reduceLT, Int.reduceLE, Int.reduceBEq, Int.reduceEq, Int.reduceToNat]
  have hw1 : AtU (h.push (.cells (Blk.of [.int .i64 kd, .int .i64 n1, .int .i64 n2, .int .i64 n3, d, kv]) 48)) w := hw.old fun b hb => by simp -implicitDefEqProofs (disch := (first | omega | (simp -implicitDefEqProofs only [Heap.n_push, Heap.n_set, Blk.size_set, Blk.size_puts, Blk.size_putA, w_of_size, w_rep_size, List.length_cons, List.length_nil, ne_eq] <;> omega) | fail)) only [go_sem, Nat.reduceAdd, Nat.reduceSub, Nat.reduceMul, Nat.reduceLT, Nat.reduceMod, Nat.reduceDiv, Nat.reduceEqDiff, Nat.reduceBEq, Nat.reduceLeDiff, ↓reduceIte, reduceCtorEq, Int.reduceAdd, Int.reduceSub, Int.reduceLT, Int.reduceLE, Int.reduceBEq, Int.reduceEq, Int.reduceToNat]
  have hn1 : (h.push (.cells (Blk.of [.int .i64 kd, .int .i64 n1, .int .i64 n2, .int .i64 n3, d, kv]) 48)).n = h.n + 1 := by simp
  have hs1 : ∃ c, (h.push (.cells (Blk.of [.int .i64 kd, .int .i64 n1, .int .i64 n2, .int .i64 n3, d, kv]) 48)).get h.n = some (.cells c 48) ∧ c.size = 6 ∧ c.get 0 = .int .i64 kd ∧ c.get 1 = .int .i64 n1 ∧ c.get 2 = .int .i64 n2 ∧ c.get 3 = .int .i64 n3 ∧ c.get 4 = d ∧ c.get 5 = kv := ⟨_, by simp -implicitDefEqProofs (disch := (first | omega | (simp -implicitDefEqProofs only [Heap.n_push, Heap.n_set, Blk.size_set, Blk.size_puts, Blk.size_putA, w_of_size, w_rep_size, List.length_cons, List.length_nil, ne_eq] <;> omega) | fail)) only [go_sem, Nat.reduceAdd, Nat.reduceSub, Nat.reduceMul, Nat.reduceLT, Nat.reduceMod, Nat.reduceDiv, Nat.reduceEqDiff, Nat.reduceBEq, Nat.reduceLeDiff, ↓reduceIte, reduceCtorEq, Int.reduceAdd, Int.reduceSub, Int.reduceLT, Int.reduceLE, Int.reduceBEq, Int.reduceEq, Int.reduceToNat]; rfl, rfl, rfl, rfl, rfl, rfl, rfl, rfl⟩
  have hun : 1 < u.X.n := by rw [z.su.n]; omega
  have hwn : 1 < w.X.n := by rw [z.sw.n]; omega
  have huc := z.su.count 1 (by omega)
  have hwc := z.sw.count 1 (by omega)
  have huf := z.su.first 1 (by omega)
  have hwf := z.sw.first 1 (by omega)
  refine SF.go hm Try.func17 ir17_eq ?_
  rw [ir17_split]
  have fin : ∀ g2 u' w' (tr : Tr V), Two h.n u w u' w' g2 → h.n ≤ g2.n → tr.get 0 = some (.ptr (some (u.bx, 0))) → tr.get 1 = some (.ptr (some (w.bx, 0))) → tr.get 7 = some (.bool true) → GO ⟨Try.prog, true⟩ (fun _ => True) (fun b => h.n ≤ b ∨ u.foot b ∨ w.foot b) none (Vm.Fin ⟨Try.prog, true⟩ (fun _ => True) (fun b => h.n ≤ b ∨ u.foot b ∨ w.foot b) [ResultVar.tmp 6] fun r h' => r = V.bool true ∧ ∃ u' w', Two h.n u w u' w' h') [.code ir17_t] ⟨⟨164, tr⟩, []⟩ g2 := by
    intro g2 u' w' tr d hn t0 t1 t7
    exact alike_tail (W := fun b => u.foot b ∨ w.foot b) d.au d.aw d.sim hn (fun g' _ h2 => ⟨rfl, u', w', d.old h2⟩) (by rw [d.bx.1]; exact t0) (by rw [d.bx.2]; exact t1) t7
  have fin0 : ∀ g2 (tr : Tr V), (∀ b, b < h.n → g2.get b = h.get b) → h.n ≤ g2.n → tr.get 0 = some (.ptr (some (u.bx, 0))) → tr.get 1 = some (.ptr (some (w.bx, 0))) → tr.get 7 = some (.bool true) → GO ⟨Try.prog, true⟩ (fun _ => True) (fun b => h.n ≤ b ∨ u.foot b ∨ w.foot b) none (Vm.Fin ⟨Try.prog, true⟩ (fun _ => True) (fun b => h.n ≤ b ∨ u.foot b ∨ w.foot b) [ResultVar.tmp 6] fun r h' => r = V.bool true ∧ ∃ u' w', Two h.n u w u' w' h') [.code ir17_t] ⟨⟨164, tr⟩, []⟩ g2 :=
    fun g2 tr hk => fin g2 u w tr (Two.refl (hu.old hk) (hw.old hk) z ap)
  have hpk : ∀ b, b < h.n → (h.push (.cells (Blk.of [.int .i64 kd, .int .i64 n1, .int .i64 n2, .int .i64 n3, d, kv]) 48)).get b = h.get b := fun b hb => by simp -implicitDefEqProofs (disch := (first | omega | (simp -implicitDefEqProofs only [Heap.n_push, Heap.n_set, Blk.size_set, Blk.size_puts, Blk.size_putA, w_of_size, w_rep_size, List.length_cons, List.length_nil, ne_eq] <;> omega) | fail)) only [go_sem, Nat.reduceAdd, Nat.reduceSub, Nat.reduceMul, Nat.reduceLT, Nat.reduceMod, Nat.reduceDiv, Nat.reduceEqDiff, Nat.reduceBEq, Nat.reduceLeDiff, ↓reduceIte, reduceCtorEq, Int.reduceAdd, Int.reduceSub, Int.reduceLT, Int.reduceLE, Int.reduceBEq, Int.reduceEq, Int.reduceToNat]
  by_cases k1 : kd = 1
  · subst k1
    simp -implicitDefEqProofs (disch := (first | omega | (simp -implicitDefEqProofs only [Heap.n_push, Heap.n_set, Blk.size_set, Blk.size_puts, Blk.size_putA, w_of_size, w_rep_size, List.length_cons, List.length_nil, ne_eq] <;> omega) | fail)) only [go_sem, Nat.reduceAdd, Nat.reduceSub, Nat.reduceMul, Nat.reduceLT, Nat.reduceMod, Nat.reduceDiv, Nat.reduceEqDiff, Nat.reduceBEq, Nat.reduceLeDiff, ↓reduceIte, reduceCtorEq, Int.reduceAdd, Int.reduceSub, Int.reduceLT, Int.reduceLE, Int.reduceBEq, Int.reduceEq, Int.reduceToNat, ir17, LC.fst, LC.snd, ↓hone1, ↓hone2]
    generalize h.push (.cells (Blk.of [.int .i64 1, .int .i64 n1, .int .i64 n2, .int .i64 n3, d, kv]) 48) = g at *
    obtain ⟨c, c1, cs, z0, z1, z2, z3, z4, z5⟩ := hs1
    by_cases hn : n2 < 1
    · refine GCall.of (take_bad (a := ((1 : Nat) : Int)) hu1.x (fun _ _ => trivial) (.inr hn)).any ?_
      rintro r g2 ⟨rfl, rfl⟩
      simp -implicitDefEqProofs (disch := (first | omega | (simp -implicitDefEqProofs only [Heap.n_push, Heap.n_set, Blk.size_set, Blk.size_puts, Blk.size_putA, w_of_size, w_rep_size, List.length_cons, List.length_nil, ne_eq] <;> omega) | fail)) only [go_sem, Nat.reduceAdd, Nat.reduceSub, Nat.reduceMul, Nat.reduceLT, Nat.reduceMod, Nat.reduceDiv, Nat.reduceEqDiff, Nat.reduceBEq, Nat.reduceLeDiff, ↓reduceIte, reduceCtorEq, Int.reduceAdd, Int.reduceSub, Int.reduceLT, Int.reduceLE, Int.reduceBEq, Int.reduceEq, Int.reduceToNat, c1, cs, z2]
      refine GCall.of (take_bad (a := ((1 : Nat) : Int)) hw1.x (fun _ _ => trivial) (.inr hn)).any ?_
      rintro r g3 ⟨rfl, rfl⟩
      simp -implicitDefEqProofs (disch := (first | omega | (simp -implicitDefEqProofs only [Heap.n_push, Heap.n_set, Blk.size_set, Blk.size_puts, Blk.size_putA, w_of_size, w_rep_size, List.length_cons, List.length_nil, ne_eq] <;> omega) | fail)) only [go_sem, Nat.reduceAdd, Nat.reduceSub, Nat.reduceMul, Nat.reduceLT, Nat.reduceMod, Nat.reduceDiv, Nat.reduceEqDiff, Nat.reduceBEq, Nat.reduceLeDiff, ↓reduceIte, reduceCtorEq, Int.reduceAdd, Int.reduceSub, Int.reduceLT, Int.reduceLE, Int.reduceBEq, Int.reduceEq, Int.reduceToNat, undefV]
      refine GCall.of (num_ok _).any ?_
      rintro v g8 ⟨rfl, rfl⟩
      simp -implicitDefEqProofs (disch := (first | omega | (simp -implicitDefEqProofs only [Heap.n_push, Heap.n_set, Blk.size_set, Blk.size_puts, Blk.size_putA, w_of_size, w_rep_size, List.length_cons, List.length_nil, ne_eq] <;> omega) | fail)) only [go_sem, Nat.reduceAdd, Nat.reduceSub, Nat.reduceMul, Nat.reduceLT, Nat.reduceMod, Nat.reduceDiv, Nat.reduceEqDiff, Nat.reduceBEq, Nat.reduceLeDiff, ↓reduceIte, reduceCtorEq, Int.reduceAdd, Int.reduceSub, Int.reduceLT, Int.reduceLE, Int.reduceBEq, Int.reduceEq, Int.reduceToNat, undefV]
      refine GCall.of (num_ok _).any ?_
      rintro v g8 ⟨rfl, rfl⟩
      simp -implicitDefEqProofs (disch := (first | omega | (simp -implicitDefEqProofs only [Heap.n_push, Heap.n_set, Blk.size_set, Blk.size_puts, Blk.size_putA, w_of_size, w_rep_size, List.length_cons, List.length_nil, ne_eq] <;> omega) | fail)) only [go_sem, Nat.reduceAdd, Nat.reduceSub, Nat.reduceMul, Nat.reduceLT, Nat.reduceMod, Nat.reduceDiv, Nat.reduceEqDiff, Nat.reduceBEq, Nat.reduceLeDiff, ↓reduceIte, reduceCtorEq, Int.reduceAdd, Int.reduceSub, Int.reduceLT, Int.reduceLE, Int.reduceBEq, Int.reduceEq, Int.reduceToNat, undefV]
      exact fin0 _ _ hpk (by omega) (by simp -implicitDefEqProofs (disch := (first | omega | (simp -implicitDefEqProofs only [Heap.n_push, Heap.n_set, Blk.size_set, Blk.size_puts, Blk.size_putA, w_of_size, w_rep_size, List.length_cons, List.length_nil, ne_eq] <;> omega) | fail)) only [go_sem, Nat.reduceAdd, Nat.reduceSub, Nat.reduceMul, Nat.reduceLT, Nat.reduceMod, Nat.reduceDiv, Nat.reduceEqDiff, Nat.reduceBEq, Nat.reduceLeDiff, ↓reduceIte, reduceCtorEq, Int.reduceAdd, Int.reduceSub, Int.reduceLT, Int.reduceLE, Int.reduceBEq, Int.reduceEq, Int.reduceToNat]) (by simp -implicitDefEqProofs (disch := (first | omega | (simp -implicitDefEqProofs only [Heap.n_push, Heap.n_set, Blk.size_set, Blk.size_puts, Blk.size_putA, w_of_size, w_rep_size, List.length_cons, List.length_nil, ne_eq] <;> omega) | fail)) only [go_sem, Nat.reduceAdd, Nat.reduceSub, Nat.reduceMul, Nat.reduceLT, Nat.reduceMod, Nat.reduceDiv, Nat.reduceEqDiff, Nat.reduceBEq, Nat.reduceLeDiff, ↓reduceIte, reduceCtorEq, Int.reduceAdd, Int.reduceSub, Int.reduceLT, Int.reduceLE, Int.reduceBEq, Int.reduceEq, Int.reduceToNat]) (by simp -implicitDefEqProofs (disch := (first | omega | (simp -implicitDefEqProofs only [Heap.n_push, Heap.n_set, Blk.size_set, Blk.size_puts, Blk.size_putA, w_of_size, w_rep_size, List.length_cons, List.length_nil, ne_eq] <;> omega) | fail)) only [go_sem, Nat.reduceAdd, Nat.reduceSub, Nat.reduceMul, Nat.reduceLT, Nat.reduceMod, Nat.reduceDiv, Nat.reduceEqDiff, Nat.reduceBEq, Nat.reduceLeDiff, ↓reduceIte, reduceCtorEq, Int.reduceAdd, Int.reduceSub, Int.reduceLT, Int.reduceLE, Int.reduceBEq, Int.reduceEq, Int.reduceToNat])
    · obtain ⟨n, rfl⟩ := Int.eq_ofNat_of_zero_le (show 0 ≤ n2 by omega)
      refine GCall.of (((utake (R := fun _ => True) (W := u.foot) hu1 (fun _ _ => trivial) (fun _ h => h) hun (by omega) (by omega)).any.kept).foot (fun _ h => h) (fun b hb => .inr (.inl hb))) ?_
      rintro r g2 ⟨⟨q, hq, rfl, hu2⟩, v2⟩
      have hw2 := VF.other hw1 ap v2
      have hgl := hu1.lt
      have hng : ¬ u.foot h.n := fun h => by have := hu.lt _ h; omega
      have c2 : g2.get h.n = some (.cells c 48) := by rw [v2.get _ (by omega) hng]; exact c1
      obtain ⟨x, y, hxy⟩ : ∃ x y : Int, takeV q = .tuple [.int .i64 x, .int .i64 y] := by cases q <;> exact ⟨_, _, rfl⟩
      rw [hxy]
      simp -implicitDefEqProofs (disch := (first | omega | (simp -implicitDefEqProofs only [Heap.n_push, Heap.n_set, Blk.size_set, Blk.size_puts, Blk.size_putA, w_of_size, w_rep_size, List.length_cons, List.length_nil, ne_eq] <;> omega) | fail)) only [go_sem, Nat.reduceAdd, Nat.reduceSub, Nat.reduceMul, Nat.reduceLT, Nat.reduceMod, Nat.reduceDiv, Nat.reduceEqDiff, Nat.reduceBEq, Nat.reduceLeDiff, ↓reduceIte, reduceCtorEq, Int.reduceAdd, Int.reduceSub, Int.reduceLT, Int.reduceLE, Int.reduceBEq, Int.reduceEq, Int.reduceToNat, c2, cs, z2]
      refine GCall.of (((utake (R := fun _ => True) (W := w.foot) hw2 (fun _ _ => trivial) (fun _ h => h) hwn (by omega) (by omega)).any.kept).foot (fun _ h => h) (fun b hb => .inr (.inr hb))) ?_
      rintro r g3 ⟨⟨q', hq', rfl, hw3⟩, v3⟩
      obtain rfl : q = q' := hq.one (by rw [z.has, huc, ← hwc]; exact hq')
      rw [hxy]
      have m2 := v2.n
      have m3 := v3.n
      obtain ⟨e1, e2, e3⟩ := u.X.took_n 1 n q
      obtain ⟨f1, f2, f3⟩ := w.X.took_n 1 n q
      have d3 : Two h.n u w _ _ g3 := Two.mk' (by omega) hu1 hw1 ap hu2 v2 hw3 v3 (z.withX ⟨e1, e2, e3⟩ ⟨f1, f2, f3⟩ (took_eq z n q)) ⟨rfl, rfl⟩ (fun s => ⟨Nat.le_succ _, Nat.le_succ _⟩) (fun b hb => .inl (UU.foot_withX e1 hb)) (fun b hb => .inl (UU.foot_withX f1 hb))
      simp -implicitDefEqProofs (disch := (first | omega | (simp -implicitDefEqProofs only [Heap.n_push, Heap.n_set, Blk.size_set, Blk.size_puts, Blk.size_putA, w_of_size, w_rep_size, List.length_cons, List.length_nil, ne_eq] <;> omega) | fail)) only [go_sem, Nat.reduceAdd, Nat.reduceSub, Nat.reduceMul, Nat.reduceLT, Nat.reduceMod, Nat.reduceDiv, Nat.reduceEqDiff, Nat.reduceBEq, Nat.reduceLeDiff, ↓reduceIte, reduceCtorEq, Int.reduceAdd, Int.reduceSub, Int.reduceLT, Int.reduceLE, Int.reduceBEq, Int.reduceEq, Int.reduceToNat, undefV]
      refine GCall.of (num_ok _).any ?_
      rintro v g8 ⟨rfl, rfl⟩
      simp -implicitDefEqProofs (disch := (first | omega | (simp -implicitDefEqProofs only [Heap.n_push, Heap.n_set, Blk.size_set, Blk.size_puts, Blk.size_putA, w_of_size, w_rep_size, List.length_cons, List.length_nil, ne_eq] <;> omega) | fail)) only [go_sem, Nat.reduceAdd, Nat.reduceSub, Nat.reduceMul, Nat.reduceLT, Nat.reduceMod, Nat.reduceDiv, Nat.reduceEqDiff, Nat.reduceBEq, Nat.reduceLeDiff, ↓reduceIte, reduceCtorEq, Int.reduceAdd, Int.reduceSub, Int.reduceLT, Int.reduceLE, Int.reduceBEq, Int.reduceEq, Int.reduceToNat, undefV]
      refine GCall.of (num_ok _).any ?_
      rintro v g8 ⟨rfl, rfl⟩
      simp -implicitDefEqProofs (disch := (first | omega | (simp -implicitDefEqProofs only [Heap.n_push, Heap.n_set, Blk.size_set, Blk.size_puts, Blk.size_putA, w_of_size, w_rep_size, List.length_cons, List.length_nil, ne_eq] <;> omega) | fail)) only [go_sem, Nat.reduceAdd, Nat.reduceSub, Nat.reduceMul, Nat.reduceLT, Nat.reduceMod, Nat.reduceDiv, Nat.reduceEqDiff, Nat.reduceBEq, Nat.reduceLeDiff, ↓reduceIte, reduceCtorEq, Int.reduceAdd, Int.reduceSub, Int.reduceLT, Int.reduceLE, Int.reduceBEq, Int.reduceEq, Int.reduceToNat, undefV]
      exact fin _ _ _ _ d3 (by omega) (by simp -implicitDefEqProofs (disch := (first | omega | (simp -implicitDefEqProofs only [Heap.n_push, Heap.n_set, Blk.size_set, Blk.size_puts, Blk.size_putA, w_of_size, w_rep_size, List.length_cons, List.length_nil, ne_eq] <;> omega) | fail)) only [go_sem, Nat.reduceAdd, Nat.reduceSub, Nat.reduceMul, Nat.reduceLT, Nat.reduceMod, Nat.reduceDiv, Nat.reduceEqDiff, Nat.reduceBEq, Nat.reduceLeDiff, ↓reduceIte, reduceCtorEq, Int.reduceAdd, Int.reduceSub, Int.reduceLT, Int.reduceLE, Int.reduceBEq, Int.reduceEq, Int.reduceToNat]) (by simp -implicitDefEqProofs (disch := (first | omega | (simp -implicitDefEqProofs only [Heap.n_push, Heap.n_set, Blk.size_set, Blk.size_puts, Blk.size_putA, w_of_size, w_rep_size, List.length_cons, List.length_nil, ne_eq] <;> omega) | fail)) only [go_sem, Nat.reduceAdd, Nat.reduceSub, Nat.reduceMul, Nat.reduceLT, Nat.reduceMod, Nat.reduceDiv, Nat.reduceEqDiff, Nat.reduceBEq, Nat.reduceLeDiff, ↓reduceIte, reduceCtorEq, Int.reduceAdd, Int.reduceSub, Int.reduceLT, Int.reduceLE, Int.reduceBEq, Int.reduceEq, Int.reduceToNat]) (by simp -implicitDefEqProofs (disch := (first | omega | (simp -implicitDefEqProofs only [Heap.n_push, Heap.n_set, Blk.size_set, Blk.size_puts, Blk.size_putA, w_of_size, w_rep_size, List.length_cons, List.length_nil, ne_eq] <;> omega) | fail)) only [go_sem, Nat.reduceAdd, Nat.reduceSub, Nat.reduceMul, Nat.reduceLT, Nat.reduceMod, Nat.reduceDiv, Nat.reduceEqDiff, Nat.reduceBEq, Nat.reduceLeDiff, ↓reduceIte, reduceCtorEq, Int.reduceAdd, Int.reduceSub, Int.reduceLT, Int.reduceLE, Int.reduceBEq, Int.reduceEq, Int.reduceToNat])
  by_cases k2 : kd = 2
  · subst k2
    simp -implicitDefEqProofs (disch := (first | omega | (simp -implicitDefEqProofs only [Heap.n_push, Heap.n_set, Blk.size_set, Blk.size_puts, Blk.size_putA, w_of_size, w_rep_size, List.length_cons, List.length_nil, ne_eq] <;> omega) | fail)) only [go_sem, Nat.reduceAdd, Nat.reduceSub, Nat.reduceMul, Nat.reduceLT, Nat.reduceMod, Nat.reduceDiv, Nat.reduceEqDiff, Nat.reduceBEq, Nat.reduceLeDiff, ↓reduceIte, reduceCtorEq, Int.reduceAdd, Int.reduceSub, Int.reduceLT, Int.reduceLE, Int.reduceBEq, Int.reduceEq, Int.reduceToNat, ir17, LC.fst, LC.snd, ↓hone1, ↓hone2]
    generalize h.push (.cells (Blk.of [.int .i64 2, .int .i64 n1, .int .i64 n2, .int .i64 n3, d, kv]) 48) = g at *
    obtain ⟨c, c1, cs, z0, z1, z2, z3, z4, z5⟩ := hs1
    by_cases hn : n3 < 1 ∨ n2 < 0
    · refine GCallD.of (R' := u.foot) (W' := fun _ => False) (give_bad (a := ((1 : Nat) : Int)) hu1.x (fun b hb => .inr hb) (.inr hn)) ?_
      rintro r g2 ⟨rfl, rfl⟩
      simp -implicitDefEqProofs (disch := (first | omega | (simp -implicitDefEqProofs only [Heap.n_push, Heap.n_set, Blk.size_set, Blk.size_puts, Blk.size_putA, w_of_size, w_rep_size, List.length_cons, List.length_nil, ne_eq] <;> omega) | fail)) only [go_sem, Nat.reduceAdd, Nat.reduceSub, Nat.reduceMul, Nat.reduceLT, Nat.reduceMod, Nat.reduceDiv, Nat.reduceEqDiff, Nat.reduceBEq, Nat.reduceLeDiff, ↓reduceIte, reduceCtorEq, Int.reduceAdd, Int.reduceSub, Int.reduceLT, Int.reduceLE, Int.reduceBEq, Int.reduceEq, Int.reduceToNat]
      refine GCallD.of (R' := fun _ => False) (W' := fun _ => False) (num_ok _) ?_
      rintro v g8 ⟨rfl, rfl⟩
      simp -implicitDefEqProofs (disch := (first | omega | (simp -implicitDefEqProofs only [Heap.n_push, Heap.n_set, Blk.size_set, Blk.size_puts, Blk.size_putA, w_of_size, w_rep_size, List.length_cons, List.length_nil, ne_eq] <;> omega) | fail)) only [go_sem, Nat.reduceAdd, Nat.reduceSub, Nat.reduceMul, Nat.reduceLT, Nat.reduceMod, Nat.reduceDiv, Nat.reduceEqDiff, Nat.reduceBEq, Nat.reduceLeDiff, ↓reduceIte, reduceCtorEq, Int.reduceAdd, Int.reduceSub, Int.reduceLT, Int.reduceLE, Int.reduceBEq, Int.reduceEq, Int.reduceToNat, c1, cs, z2, z3]
      refine GCallD.of (R' := w.foot) (W' := fun _ => False) (give_bad (a := ((1 : Nat) : Int)) hw1.x (fun b hb => .inr hb) (.inr hn)) ?_
      rintro r g2 ⟨rfl, rfl⟩
      simp -implicitDefEqProofs (disch := (first | omega | (simp -implicitDefEqProofs only [Heap.n_push, Heap.n_set, Blk.size_set, Blk.size_puts, Blk.size_putA, w_of_size, w_rep_size, List.length_cons, List.length_nil, ne_eq] <;> omega) | fail)) only [go_sem, Nat.reduceAdd, Nat.reduceSub, Nat.reduceMul, Nat.reduceLT, Nat.reduceMod, Nat.reduceDiv, Nat.reduceEqDiff, Nat.reduceBEq, Nat.reduceLeDiff, ↓reduceIte, reduceCtorEq, Int.reduceAdd, Int.reduceSub, Int.reduceLT, Int.reduceLE, Int.reduceBEq, Int.reduceEq, Int.reduceToNat]
      refine GCallD.of (R' := fun _ => False) (W' := fun _ => False) (num_ok _) ?_
      rintro v g8 ⟨rfl, rfl⟩
      simp -implicitDefEqProofs (disch := (first | omega | (simp -implicitDefEqProofs only [Heap.n_push, Heap.n_set, Blk.size_set, Blk.size_puts, Blk.size_putA, w_of_size, w_rep_size, List.length_cons, List.length_nil, ne_eq] <;> omega) | fail)) only [go_sem, Nat.reduceAdd, Nat.reduceSub, Nat.reduceMul, Nat.reduceLT, Nat.reduceMod, Nat.reduceDiv, Nat.reduceEqDiff, Nat.reduceBEq, Nat.reduceLeDiff, ↓reduceIte, reduceCtorEq, Int.reduceAdd, Int.reduceSub, Int.reduceLT, Int.reduceLE, Int.reduceBEq, Int.reduceEq, Int.reduceToNat]
      have hng : ¬ u.foot h.n := fun h => by have := hu.lt _ h; omega
      simp only [List.not_mem_nil, or_false, false_or, and_false, false_and, false_implies, implies_true, not_false_eq_true, List.mem_singleton, List.mem_cons, and_true, true_and, not_true_eq_false, or_self]
      and_intros
      all_goals try (intros; omega)
      all_goals try (rintro b hb ⟨_, rfl⟩; rcases hb with ⟨_, h⟩ | h; exact hng h; omega)
      all_goals try (intro b _ h; exact .inr (.inl h))
      all_goals try (intro b _ h; exact .inr (.inr h))
      exact fin0 _ _ hpk (by omega) (by simp -implicitDefEqProofs (disch := (first | omega | (simp -implicitDefEqProofs only [Heap.n_push, Heap.n_set, Blk.size_set, Blk.size_puts, Blk.size_putA, w_of_size, w_rep_size, List.length_cons, List.length_nil, ne_eq] <;> omega) | fail)) only [go_sem, Nat.reduceAdd, Nat.reduceSub, Nat.reduceMul, Nat.reduceLT, Nat.reduceMod, Nat.reduceDiv, Nat.reduceEqDiff, Nat.reduceBEq, Nat.reduceLeDiff, ↓reduceIte, reduceCtorEq, Int.reduceAdd, Int.reduceSub, Int.reduceLT, Int.reduceLE, Int.reduceBEq, Int.reduceEq, Int.reduceToNat]) (by simp -implicitDefEqProofs (disch := (first | omega | (simp -implicitDefEqProofs only [Heap.n_push, Heap.n_set, Blk.size_set, Blk.size_puts, Blk.size_putA, w_of_size, w_rep_size, List.length_cons, List.length_nil, ne_eq] <;> omega) | fail)) only [go_sem, Nat.reduceAdd, Nat.reduceSub, Nat.reduceMul, Nat.reduceLT, Nat.reduceMod, Nat.reduceDiv, Nat.reduceEqDiff, Nat.reduceBEq, Nat.reduceLeDiff, ↓reduceIte, reduceCtorEq, Int.reduceAdd, Int.reduceSub, Int.reduceLT, Int.reduceLE, Int.reduceBEq, Int.reduceEq, Int.reduceToNat]) (by simp -implicitDefEqProofs (disch := (first | omega | (simp -implicitDefEqProofs only [Heap.n_push, Heap.n_set, Blk.size_set, Blk.size_puts, Blk.size_putA, w_of_size, w_rep_size, List.length_cons, List.length_nil, ne_eq] <;> omega) | fail)) only [go_sem, Nat.reduceAdd, Nat.reduceSub, Nat.reduceMul, Nat.reduceLT, Nat.reduceMod, Nat.reduceDiv, Nat.reduceEqDiff, Nat.reduceBEq, Nat.reduceLeDiff, ↓reduceIte, reduceCtorEq, Int.reduceAdd, Int.reduceSub, Int.reduceLT, Int.reduceLE, Int.reduceBEq, Int.reduceEq, Int.reduceToNat])
    · obtain ⟨n, rfl⟩ := Int.eq_ofNat_of_zero_le (show 0 ≤ n3 by omega)
      obtain ⟨f, rfl⟩ := Int.eq_ofNat_of_zero_le (show 0 ≤ n2 by omega)
      refine GCallD.of (R' := u.foot) (W' := u.foot) ((ugive (R := u.foot) (W := u.foot) hu1 (fun _ h => h) (fun _ h => h) hun (show 1 ≤ n by omega) (by omega) (show f ≤ 9223372036854775807 by omega)).kept) ?_
      rintro r g2 ⟨hr, v2⟩
      obtain ⟨u', e, hu2, hre, hu'⟩ : ∃ u' : UU, ∃ e : Int, AtU g2 u' ∧ r = .int .i64 e ∧ ((u.X.full 1 f n ∧ e = 0 ∧ u' = u.withX (u.X.fill 1 f n false)) ∨ (¬ u.X.full 1 f n ∧ e = 6 ∧ u' = u)) := by
        rcases hr with ⟨a1, rfl, a3⟩ | ⟨a1, rfl, rfl⟩
        · exact ⟨_, _, a3, rfl, .inl ⟨a1, rfl, rfl⟩⟩
        · exact ⟨u, _, hu1, rfl, .inr ⟨a1, rfl, rfl⟩⟩
      subst hre
      clear hr
      have hw2 := VF.other hw1 ap v2
      have hng : ¬ u.foot h.n := fun h => by have := hu.lt _ h; omega
      have m2 := v2.n
      have c2 : g2.get h.n = some (.cells c 48) := by rw [v2.get _ (by omega) hng]; exact c1
      simp -implicitDefEqProofs (disch := (first | omega | (simp -implicitDefEqProofs only [Heap.n_push, Heap.n_set, Blk.size_set, Blk.size_puts, Blk.size_putA, w_of_size, w_rep_size, List.length_cons, List.length_nil, ne_eq] <;> omega) | fail)) only [go_sem, Nat.reduceAdd, Nat.reduceSub, Nat.reduceMul, Nat.reduceLT, Nat.reduceMod, Nat.reduceDiv, Nat.reduceEqDiff, Nat.reduceBEq, Nat.reduceLeDiff, ↓reduceIte, reduceCtorEq, Int.reduceAdd, Int.reduceSub, Int.reduceLT, Int.reduceLE, Int.reduceBEq, Int.reduceEq, Int.reduceToNat]
      refine GCallD.of (R' := fun _ => False) (W' := fun _ => False) (num_ok _) ?_
      rintro v g8 ⟨rfl, rfl⟩
      simp -implicitDefEqProofs (disch := (first | omega | (simp -implicitDefEqProofs only [Heap.n_push, Heap.n_set, Blk.size_set, Blk.size_puts, Blk.size_putA, w_of_size, w_rep_size, List.length_cons, List.length_nil, ne_eq] <;> omega) | fail)) only [go_sem, Nat.reduceAdd, Nat.reduceSub, Nat.reduceMul, Nat.reduceLT, Nat.reduceMod, Nat.reduceDiv, Nat.reduceEqDiff, Nat.reduceBEq, Nat.reduceLeDiff, ↓reduceIte, reduceCtorEq, Int.reduceAdd, Int.reduceSub, Int.reduceLT, Int.reduceLE, Int.reduceBEq, Int.reduceEq, Int.reduceToNat, c2, cs, z2, z3]
      refine GCallD.of (R' := w.foot) (W' := w.foot) ((ugive (R := w.foot) (W := w.foot) hw2 (fun _ h => h) (fun _ h => h) hwn (show 1 ≤ n by omega) (by omega) (show f ≤ 9223372036854775807 by omega)).kept) ?_
      rintro r g3 ⟨hr, v3⟩
      have hfull : u.X.full 1 f n ↔ w.X.full 1 f n := by unfold XS.full; rw [z.has, huc, hwc]
      obtain ⟨w', hw3, hre, hw'⟩ : ∃ w' : UU, AtU g3 w' ∧ r = .int .i64 e ∧ ((u.X.full 1 f n ∧ w' = w.withX (w.X.fill 1 f n false)) ∨ (¬ u.X.full 1 f n ∧ w' = w)) := by
        rcases hr with ⟨a1, rfl, a3⟩ | ⟨a1, rfl, rfl⟩
        · rcases hu' with ⟨q1, rfl, _⟩ | ⟨q1, _⟩
          · exact ⟨_, a3, rfl, .inl ⟨q1, rfl⟩⟩
          · exact absurd (hfull.2 a1) q1
        · rcases hu' with ⟨q1, _⟩ | ⟨q1, rfl, _⟩
          · exact absurd (hfull.1 q1) a1
          · exact ⟨w, hw2, rfl, .inr ⟨q1, rfl⟩⟩
      subst hre
      clear hr
      have m3 := v3.n
      simp -implicitDefEqProofs (disch := (first | omega | (simp -implicitDefEqProofs only [Heap.n_push, Heap.n_set, Blk.size_set, Blk.size_puts, Blk.size_putA, w_of_size, w_rep_size, List.length_cons, List.length_nil, ne_eq] <;> omega) | fail)) only [go_sem, Nat.reduceAdd, Nat.reduceSub, Nat.reduceMul, Nat.reduceLT, Nat.reduceMod, Nat.reduceDiv, Nat.reduceEqDiff, Nat.reduceBEq, Nat.reduceLeDiff, ↓reduceIte, reduceCtorEq, Int.reduceAdd, Int.reduceSub, Int.reduceLT, Int.reduceLE, Int.reduceBEq, Int.reduceEq, Int.reduceToNat]
      refine GCallD.of (R' := fun _ => False) (W' := fun _ => False) (num_ok _) ?_
      rintro v g9 ⟨rfl, rfl⟩
      have d3 : Two h.n u w u' w' g9 := by
        rcases hu' with ⟨q1, _, rfl⟩ | ⟨q1, _, rfl⟩
        · rcases hw' with ⟨_, rfl⟩ | ⟨q2, _⟩
          · exact Two.mk' (by omega) hu1 hw1 ap hu2 v2 hw3 v3 (z.withX ⟨rfl, rfl, rfl⟩ ⟨rfl, rfl, rfl⟩ (fill_eq z f n false)) ⟨rfl, rfl⟩ (fun s => ⟨Nat.le_succ _, Nat.le_succ _⟩) (fun b hb => .inl (UU.foot_withX rfl hb)) (fun b hb => .inl (UU.foot_withX rfl hb))
          · exact absurd q1 q2
        · rcases hw' with ⟨q2, _⟩ | ⟨_, rfl⟩
          · exact absurd q2 q1
          · exact Two.mk' (by omega) hu1 hw1 ap hu2 v2 hw3 v3 z ⟨rfl, rfl⟩ (fun s => ⟨Nat.le_succ _, Nat.le_succ _⟩) (fun b hb => .inl hb) (fun b hb => .inl hb)
      simp -implicitDefEqProofs (disch := (first | omega | (simp -implicitDefEqProofs only [Heap.n_push, Heap.n_set, Blk.size_set, Blk.size_puts, Blk.size_putA, w_of_size, w_rep_size, List.length_cons, List.length_nil, ne_eq] <;> omega) | fail)) only [go_sem, Nat.reduceAdd, Nat.reduceSub, Nat.reduceMul, Nat.reduceLT, Nat.reduceMod, Nat.reduceDiv, Nat.reduceEqDiff, Nat.reduceBEq, Nat.reduceLeDiff, ↓reduceIte, reduceCtorEq, Int.reduceAdd, Int.reduceSub, Int.reduceLT, Int.reduceLE, Int.reduceBEq, Int.reduceEq, Int.reduceToNat]
      simp only [List.not_mem_nil, or_false, false_or, and_false, false_and, false_implies, implies_true, not_false_eq_true, List.mem_singleton, List.mem_cons, and_true, true_and, not_true_eq_false, or_self]
      and_intros
      all_goals try (intros; omega)
      all_goals try (rintro b hb ⟨_, rfl⟩; rcases hb with ⟨_, h⟩ | h; exact hng h; omega)
      all_goals try (intro b _ h; exact .inr (.inl h))
      all_goals try (intro b _ h; exact .inr (.inr h))
      exact fin _ _ _ _ d3 (by omega) (by simp -implicitDefEqProofs (disch := (first | omega | (simp -implicitDefEqProofs only [Heap.n_push, Heap.n_set, Blk.size_set, Blk.size_puts, Blk.size_putA, w_of_size, w_rep_size, List.length_cons, List.length_nil, ne_eq] <;> omega) | fail)) only [go_sem, Nat.reduceAdd, Nat.reduceSub, Nat.reduceMul, Nat.reduceLT, Nat.reduceMod, Nat.reduceDiv, Nat.reduceEqDiff, Nat.reduceBEq, Nat.reduceLeDiff, ↓reduceIte, reduceCtorEq, Int.reduceAdd, Int.reduceSub, Int.reduceLT, Int.reduceLE, Int.reduceBEq, Int.reduceEq, Int.reduceToNat]) (by simp -implicitDefEqProofs (disch := (first | omega | (simp -implicitDefEqProofs only [Heap.n_push, Heap.n_set, Blk.size_set, Blk.size_puts, Blk.size_putA, w_of_size, w_rep_size, List.length_cons, List.length_nil, ne_eq] <;> omega) | fail)) only [go_sem, Nat.reduceAdd, Nat.reduceSub, Nat.reduceMul, Nat.reduceLT, Nat.reduceMod, Nat.reduceDiv, Nat.reduceEqDiff, Nat.reduceBEq, Nat.reduceLeDiff, ↓reduceIte, reduceCtorEq, Int.reduceAdd, Int.reduceSub, Int.reduceLT, Int.reduceLE, Int.reduceBEq, Int.reduceEq, Int.reduceToNat]) (by simp -implicitDefEqProofs (disch := (first | omega | (simp -implicitDefEqProofs only [Heap.n_push, Heap.n_set, Blk.size_set, Blk.size_puts, Blk.size_putA, w_of_size, w_rep_size, List.length_cons, List.length_nil, ne_eq] <;> omega) | fail)) only [go_sem, Nat.reduceAdd, Nat.reduceSub, Nat.reduceMul, Nat.reduceLT, Nat.reduceMod, Nat.reduceDiv, Nat.reduceEqDiff, Nat.reduceBEq, Nat.reduceLeDiff, ↓reduceIte, reduceCtorEq, Int.reduceAdd, Int.reduceSub, Int.reduceLT, Int.reduceLE, Int.reduceBEq, Int.reduceEq, Int.reduceToNat])
  by_cases k3 : kd = 3
  · subst k3
    simp -implicitDefEqProofs (disch := (first | omega | (simp -implicitDefEqProofs only [Heap.n_push, Heap.n_set, Blk.size_set, Blk.size_puts, Blk.size_putA, w_of_size, w_rep_size, List.length_cons, List.length_nil, ne_eq] <;> omega) | fail)) only [go_sem, Nat.reduceAdd, Nat.reduceSub, Nat.reduceMul, Nat.reduceLT, Nat.reduceMod, Nat.reduceDiv, Nat.reduceEqDiff, Nat.reduceBEq, Nat.reduceLeDiff, ↓reduceIte, reduceCtorEq, Int.reduceAdd, Int.reduceSub, Int.reduceLT, Int.reduceLE, Int.reduceBEq, Int.reduceEq, Int.reduceToNat, ir17, LC.fst, LC.snd, ↓hone1, ↓hone2]
    generalize h.push (.cells (Blk.of [.int .i64 3, .int .i64 n1, .int .i64 n2, .int .i64 n3, d, kv]) 48) = g at *
    obtain ⟨c, c1, cs, z0, z1, z2, z3, z4, z5⟩ := hs1
    refine GCallD.of (R' := fun b => u.foot b ∨ b < H.n) (W' := u.foot) ((uwrite (R := fun b => u.foot b ∨ b < H.n) (W := u.foot) hu1 (fun _ h => .inl h) (fun _ h => .inr h) (fun _ h => h) hun n2 hd1 (fun s => by have := few s; omega)).kept) ?_
    rintro r g2 ⟨hr, v2⟩
    obtain ⟨u', e, hu2, hre, fu, hu'⟩ : ∃ u' : UU, ∃ e : Int, AtU g2 u' ∧ r = .int .i64 e ∧ (∀ b, u'.foot b → u.foot b ∨ g.n ≤ b) ∧ ((u.X.own ((1 : Nat) : Int) n2 ∧ l.length = 128 ∧ e = 0 ∧ ∃ nb, u' = u.write (8 + n2.toNat) nb l) ∨ (u.X.own ((1 : Nat) : Int) n2 ∧ l.length ≠ 128 ∧ e = 2 ∧ u' = u) ∨ (¬ u.X.own ((1 : Nat) : Int) n2 ∧ e = 6 ∧ u' = u)) := by
      rcases hr with ⟨a1, a2, rfl, nb, hnb, a3⟩ | ⟨a1, a2, rfl, rfl⟩ | ⟨a1, rfl, rfl⟩
      · rw [huf] at a3
        exact ⟨_, _, a3, rfl, fun b hb => (UU.foot_write hb).imp id fun e => by omega, .inl ⟨a1, a2, rfl, nb, rfl⟩⟩
      · exact ⟨u, _, hu1, rfl, fun b hb => .inl hb, .inr (.inl ⟨a1, a2, rfl, rfl⟩)⟩
      · exact ⟨u, _, hu1, rfl, fun b hb => .inl hb, .inr (.inr ⟨a1, rfl, rfl⟩)⟩
    subst hre
    clear hr
    have hw2 := VF.other hw1 ap v2
    have hng : ¬ u.foot h.n := fun h => by have := hu.lt _ h; omega
    have m2 := v2.n
    have c2 : g2.get h.n = some (.cells c 48) := by rw [v2.get _ (by omega) hng]; exact c1
    have hd2 : BytesV g2 (fun b => b < H.n) d l := by
      refine ⟨hd1.1, hd1.2.1, hd1.2.2.imp id ?_⟩
      rintro ⟨b, o, cap, ex, c, ce, e, hbH, hb, hs⟩
      exact ⟨b, o, cap, ex, c, ce, e, hbH, by rw [v2.get b (by omega) fun h => by have := hf b (.inl h); omega]; exact hb, hs⟩
    simp -implicitDefEqProofs (disch := (first | omega | (simp -implicitDefEqProofs only [Heap.n_push, Heap.n_set, Blk.size_set, Blk.size_puts, Blk.size_putA, w_of_size, w_rep_size, List.length_cons, List.length_nil, ne_eq] <;> omega) | fail)) only [go_sem, Nat.reduceAdd, Nat.reduceSub, Nat.reduceMul, Nat.reduceLT, Nat.reduceMod, Nat.reduceDiv, Nat.reduceEqDiff, Nat.reduceBEq, Nat.reduceLeDiff, ↓reduceIte, reduceCtorEq, Int.reduceAdd, Int.reduceSub, Int.reduceLT, Int.reduceLE, Int.reduceBEq, Int.reduceEq, Int.reduceToNat]
    refine GCallD.of (R' := fun _ => False) (W' := fun _ => False) (num_ok _) ?_
    rintro v g8 ⟨rfl, rfl⟩
    simp -implicitDefEqProofs (disch := (first | omega | (simp -implicitDefEqProofs only [Heap.n_push, Heap.n_set, Blk.size_set, Blk.size_puts, Blk.size_putA, w_of_size, w_rep_size, List.length_cons, List.length_nil, ne_eq] <;> omega) | fail)) only [go_sem, Nat.reduceAdd, Nat.reduceSub, Nat.reduceMul, Nat.reduceLT, Nat.reduceMod, Nat.reduceDiv, Nat.reduceEqDiff, Nat.reduceBEq, Nat.reduceLeDiff, ↓reduceIte, reduceCtorEq, Int.reduceAdd, Int.reduceSub, Int.reduceLT, Int.reduceLE, Int.reduceBEq, Int.reduceEq, Int.reduceToNat, c2, cs, z2, z4, ↓hone1]
    refine GCallD.of (R' := fun b => w.foot b ∨ b < H.n) (W' := w.foot) ((uwrite (R := fun b => w.foot b ∨ b < H.n) (W := w.foot) hw2 (fun _ h => .inl h) (fun _ h => .inr h) (fun _ h => h) hwn n2 hd2 (fun s => by have := few s; omega)).kept) ?_
    rintro r g3 ⟨hr, v3⟩
    have hoe := own_eq z n2
    obtain ⟨w', hw3, hre, fw, hw'⟩ : ∃ w' : UU, AtU g3 w' ∧ r = .int .i64 e ∧ (∀ b, w'.foot b → w.foot b ∨ g8.n ≤ b) ∧ ((l.length = 128 ∧ e = 0 ∧ ∃ nb, w' = w.write (8 + n2.toNat) nb l) ∨ (e ≠ 0 ∧ w' = w)) := by
      rcases hr with ⟨a1, a2, rfl, nb, hnb, a3⟩ | ⟨a1, a2, rfl, rfl⟩ | ⟨a1, rfl, rfl⟩
      · rcases hu' with ⟨_, _, rfl, _⟩ | ⟨_, q2, _⟩ | ⟨q1, _⟩
        · rw [hwf] at a3
          exact ⟨_, a3, rfl, fun b hb => (UU.foot_write hb).imp id fun e => by omega, .inl ⟨a2, rfl, nb, rfl⟩⟩
        · exact absurd a2 q2
        · exact absurd (hoe.2 a1) q1
      · rcases hu' with ⟨_, q2, _⟩ | ⟨_, _, rfl, _⟩ | ⟨q1, _⟩
        · exact absurd q2 a2
        · exact ⟨w, hw2, rfl, fun b hb => .inl hb, .inr ⟨by omega, rfl⟩⟩
        · exact absurd (hoe.2 a1) q1
      · rcases hu' with ⟨q1, _⟩ | ⟨q1, _⟩ | ⟨_, rfl, _⟩
        · exact absurd (hoe.1 q1) a1
        · exact absurd (hoe.1 q1) a1
        · exact ⟨w, hw2, rfl, fun b hb => .inl hb, .inr ⟨by omega, rfl⟩⟩
    subst hre
    clear hr
    have m3 := v3.n
    simp -implicitDefEqProofs (disch := (first | omega | (simp -implicitDefEqProofs only [Heap.n_push, Heap.n_set, Blk.size_set, Blk.size_puts, Blk.size_putA, w_of_size, w_rep_size, List.length_cons, List.length_nil, ne_eq] <;> omega) | fail)) only [go_sem, Nat.reduceAdd, Nat.reduceSub, Nat.reduceMul, Nat.reduceLT, Nat.reduceMod, Nat.reduceDiv, Nat.reduceEqDiff, Nat.reduceBEq, Nat.reduceLeDiff, ↓reduceIte, reduceCtorEq, Int.reduceAdd, Int.reduceSub, Int.reduceLT, Int.reduceLE, Int.reduceBEq, Int.reduceEq, Int.reduceToNat]
    refine GCallD.of (R' := fun _ => False) (W' := fun _ => False) (num_ok _) ?_
    rintro v g9 ⟨rfl, rfl⟩
    have d3 : Two h.n u w u' w' g9 := by
      rcases hw' with ⟨_, rfl, nb', rfl⟩ | ⟨e0, rfl⟩
      · rcases hu' with ⟨_, _, _, nb, rfl⟩ | ⟨_, _, h0, _⟩ | ⟨_, h0, _⟩
        · exact Two.mk' (by omega) hu1 hw1 ap hu2 v2 hw3 v3 (z.write _ _ _ _) ⟨rfl, rfl⟩ (fun s => ⟨write_few _ _ _ _, write_few _ _ _ _⟩) fu fw
        · omega
        · omega
      · rcases hu' with ⟨_, _, h0, _⟩ | ⟨_, _, _, rfl⟩ | ⟨_, _, rfl⟩
        · exact absurd h0 e0
        · exact Two.mk' (by omega) hu1 hw1 ap hu2 v2 hw3 v3 z ⟨rfl, rfl⟩ (fun s => ⟨Nat.le_succ _, Nat.le_succ _⟩) fu fw
        · exact Two.mk' (by omega) hu1 hw1 ap hu2 v2 hw3 v3 z ⟨rfl, rfl⟩ (fun s => ⟨Nat.le_succ _, Nat.le_succ _⟩) fu fw
    simp -implicitDefEqProofs (disch := (first | omega | (simp -implicitDefEqProofs only [Heap.n_push, Heap.n_set, Blk.size_set, Blk.size_puts, Blk.size_putA, w_of_size, w_rep_size, List.length_cons, List.length_nil, ne_eq] <;> omega) | fail)) only [go_sem, Nat.reduceAdd, Nat.reduceSub, Nat.reduceMul, Nat.reduceLT, Nat.reduceMod, Nat.reduceDiv, Nat.reduceEqDiff, Nat.reduceBEq, Nat.reduceLeDiff, ↓reduceIte, reduceCtorEq, Int.reduceAdd, Int.reduceSub, Int.reduceLT, Int.reduceLE, Int.reduceBEq, Int.reduceEq, Int.reduceToNat]
    simp only [List.not_mem_nil, or_false, false_or, and_false, false_and, false_implies, implies_true, not_false_eq_true, List.mem_singleton, List.mem_cons, and_true, true_and, not_true_eq_false, or_self]
    and_intros
    all_goals try (intros; omega)
    all_goals try (rintro b hb ⟨_, rfl⟩; rcases hb with ⟨_, h⟩ | h; exact hng h; omega)
    all_goals try (intro b _ h; exact .inr (.inl h))
    all_goals try (intro b _ h; exact .inr (.inr h))
    exact fin _ _ _ _ d3 (by omega) (by simp -implicitDefEqProofs (disch := (first | omega | (simp -implicitDefEqProofs only [Heap.n_push, Heap.n_set, Blk.size_set, Blk.size_puts, Blk.size_putA, w_of_size, w_rep_size, List.length_cons, List.length_nil, ne_eq] <;> omega) | fail)) only [go_sem, Nat.reduceAdd, Nat.reduceSub, Nat.reduceMul, Nat.reduceLT, Nat.reduceMod, Nat.reduceDiv, Nat.reduceEqDiff, Nat.reduceBEq, Nat.reduceLeDiff, ↓reduceIte, reduceCtorEq, Int.reduceAdd, Int.reduceSub, Int.reduceLT, Int.reduceLE, Int.reduceBEq, Int.reduceEq, Int.reduceToNat]) (by simp -implicitDefEqProofs (disch := (first | omega | (simp -implicitDefEqProofs only [Heap.n_push, Heap.n_set, Blk.size_set, Blk.size_puts, Blk.size_putA, w_of_size, w_rep_size, List.length_cons, List.length_nil, ne_eq] <;> omega) | fail)) only [go_sem, Nat.reduceAdd, Nat.reduceSub, Nat.reduceMul, Nat.reduceLT, Nat.reduceMod, Nat.reduceDiv, Nat.reduceEqDiff, Nat.reduceBEq, Nat.reduceLeDiff, ↓reduceIte, reduceCtorEq, Int.reduceAdd, Int.reduceSub, Int.reduceLT, Int.reduceLE, Int.reduceBEq, Int.reduceEq, Int.reduceToNat]) (by simp -implicitDefEqProofs (disch := (first | omega | (simp -implicitDefEqProofs only [Heap.n_push, Heap.n_set, Blk.size_set, Blk.size_puts, Blk.size_putA, w_of_size, w_rep_size, List.length_cons, List.length_nil, ne_eq] <;> omega) | fail)) only [go_sem, Nat.reduceAdd, Nat.reduceSub, Nat.reduceMul, Nat.reduceLT, Nat.reduceMod, Nat.reduceDiv, Nat.reduceEqDiff, Nat.reduceBEq, Nat.reduceLeDiff, ↓reduceIte, reduceCtorEq, Int.reduceAdd, Int.reduceSub, Int.reduceLT, Int.reduceLE, Int.reduceBEq, Int.reduceEq, Int.reduceToNat])
  by_cases k4 : kd = 4
  · subst k4
    simp -implicitDefEqProofs (disch := (first | omega | (simp -implicitDefEqProofs only [Heap.n_push, Heap.n_set, Blk.size_set, Blk.size_puts, Blk.size_putA, w_of_size, w_rep_size, List.length_cons, List.length_nil, ne_eq] <;> omega) | fail)) only [go_sem, Nat.reduceAdd, Nat.reduceSub, Nat.reduceMul, Nat.reduceLT, Nat.reduceMod, Nat.reduceDiv, Nat.reduceEqDiff, Nat.reduceBEq, Nat.reduceLeDiff, ↓reduceIte, reduceCtorEq, Int.reduceAdd, Int.reduceSub, Int.reduceLT, Int.reduceLE, Int.reduceBEq, Int.reduceEq, Int.reduceToNat, ir17, LC.fst, LC.snd, ↓hone1, ↓hone2]
    generalize h.push (.cells (Blk.of [.int .i64 4, .int .i64 n1, .int .i64 n2, .int .i64 n3, d, kv]) 48) = g at *
    refine GCall.of (((xflush_ok (R := fun _ => True) (W := u.foot) hu1 (fun _ _ => trivial) (fun _ h => h) hun).any.kept).foot (fun _ h => h) (fun b hb => .inr (.inl hb))) ?_
    rintro r g2 ⟨⟨rfl, hu2⟩, v2⟩
    have hw2 := VF.other hw1 ap v2
    simp -implicitDefEqProofs (disch := (first | omega | (simp -implicitDefEqProofs only [Heap.n_push, Heap.n_set, Blk.size_set, Blk.size_puts, Blk.size_putA, w_of_size, w_rep_size, List.length_cons, List.length_nil, ne_eq] <;> omega) | fail)) only [go_sem, Nat.reduceAdd, Nat.reduceSub, Nat.reduceMul, Nat.reduceLT, Nat.reduceMod, Nat.reduceDiv, Nat.reduceEqDiff, Nat.reduceBEq, Nat.reduceLeDiff, ↓reduceIte, reduceCtorEq, Int.reduceAdd, Int.reduceSub, Int.reduceLT, Int.reduceLE, Int.reduceBEq, Int.reduceEq, Int.reduceToNat]
    refine GCall.of (num_ok _).any ?_
    rintro v g8 ⟨rfl, rfl⟩
    simp -implicitDefEqProofs (disch := (first | omega | (simp -implicitDefEqProofs only [Heap.n_push, Heap.n_set, Blk.size_set, Blk.size_puts, Blk.size_putA, w_of_size, w_rep_size, List.length_cons, List.length_nil, ne_eq] <;> omega) | fail)) only [go_sem, Nat.reduceAdd, Nat.reduceSub, Nat.reduceMul, Nat.reduceLT, Nat.reduceMod, Nat.reduceDiv, Nat.reduceEqDiff, Nat.reduceBEq, Nat.reduceLeDiff, ↓reduceIte, reduceCtorEq, Int.reduceAdd, Int.reduceSub, Int.reduceLT, Int.reduceLE, Int.reduceBEq, Int.reduceEq, Int.reduceToNat]
    refine GCall.of (((xflush_ok (R := fun _ => True) (W := w.foot) hw2 (fun _ _ => trivial) (fun _ h => h) hwn).any.kept).foot (fun _ h => h) (fun b hb => .inr (.inr hb))) ?_
    rintro r g3 ⟨⟨rfl, hw3⟩, v3⟩
    simp -implicitDefEqProofs (disch := (first | omega | (simp -implicitDefEqProofs only [Heap.n_push, Heap.n_set, Blk.size_set, Blk.size_puts, Blk.size_putA, w_of_size, w_rep_size, List.length_cons, List.length_nil, ne_eq] <;> omega) | fail)) only [go_sem, Nat.reduceAdd, Nat.reduceSub, Nat.reduceMul, Nat.reduceLT, Nat.reduceMod, Nat.reduceDiv, Nat.reduceEqDiff, Nat.reduceBEq, Nat.reduceLeDiff, ↓reduceIte, reduceCtorEq, Int.reduceAdd, Int.reduceSub, Int.reduceLT, Int.reduceLE, Int.reduceBEq, Int.reduceEq, Int.reduceToNat]
    refine GCall.of (num_ok _).any ?_
    rintro v g9 ⟨rfl, rfl⟩
    have m2 := v2.n
    have m3 := v3.n
    rw [huf, huc] at hu2
    rw [hwf, hwc] at hw3
    have d3 : Two h.n u w _ _ g9 := Two.mk' (by omega) hu1 hw1 ap hu2 v2 hw3 v3 z.flush ⟨rfl, rfl⟩ (fun s => ⟨flush_few _ _ _ _, flush_few _ _ _ _⟩) (fun b hb => .inl (UU.foot_flush hb)) (fun b hb => .inl (UU.foot_flush hb))
    simp -implicitDefEqProofs (disch := (first | omega | (simp -implicitDefEqProofs only [Heap.n_push, Heap.n_set, Blk.size_set, Blk.size_puts, Blk.size_putA, w_of_size, w_rep_size, List.length_cons, List.length_nil, ne_eq] <;> omega) | fail)) only [go_sem, Nat.reduceAdd, Nat.reduceSub, Nat.reduceMul, Nat.reduceLT, Nat.reduceMod, Nat.reduceDiv, Nat.reduceEqDiff, Nat.reduceBEq, Nat.reduceLeDiff, ↓reduceIte, reduceCtorEq, Int.reduceAdd, Int.reduceSub, Int.reduceLT, Int.reduceLE, Int.reduceBEq, Int.reduceEq, Int.reduceToNat]
    exact fin _ _ _ _ d3 (by omega) (by simp -implicitDefEqProofs (disch := (first | omega | (simp -implicitDefEqProofs only [Heap.n_push, Heap.n_set, Blk.size_set, Blk.size_puts, Blk.size_putA, w_of_size, w_rep_size, List.length_cons, List.length_nil, ne_eq] <;> omega) | fail)) only [go_sem, Nat.reduceAdd, Nat.reduceSub, Nat.reduceMul, Nat.reduceLT, Nat.reduceMod, Nat.reduceDiv, Nat.reduceEqDiff, Nat.reduceBEq, Nat.reduceLeDiff, ↓reduceIte, reduceCtorEq, Int.reduceAdd, Int.reduceSub, Int.reduceLT, Int.reduceLE, Int.reduceBEq, Int.reduceEq, Int.reduceToNat]) (by simp -implicitDefEqProofs (disch := (first | omega | (simp -implicitDefEqProofs only [Heap.n_push, Heap.n_set, Blk.size_set, Blk.size_puts, Blk.size_putA, w_of_size, w_rep_size, List.length_cons, List.length_nil, ne_eq] <;> omega) | fail)) only [go_sem, Nat.reduceAdd, Nat.reduceSub, Nat.reduceMul, Nat.reduceLT, Nat.reduceMod, Nat.reduceDiv, Nat.reduceEqDiff, Nat.reduceBEq, Nat.reduceLeDiff, ↓reduceIte, reduceCtorEq, Int.reduceAdd, Int.reduceSub, Int.reduceLT, Int.reduceLE, Int.reduceBEq, Int.reduceEq, Int.reduceToNat]) (by simp -implicitDefEqProofs (disch := (first | omega | (simp -implicitDefEqProofs only [Heap.n_push, Heap.n_set, Blk.size_set, Blk.size_puts, Blk.size_putA, w_of_size, w_rep_size, List.length_cons, List.length_nil, ne_eq] <;> omega) | fail)) only [go_sem, Nat.reduceAdd, Nat.reduceSub, Nat.reduceMul, Nat.reduceLT, Nat.reduceMod, Nat.reduceDiv, Nat.reduceEqDiff, Nat.reduceBEq, Nat.reduceLeDiff, ↓reduceIte, reduceCtorEq, Int.reduceAdd, Int.reduceSub, Int.reduceLT, Int.reduceLE, Int.reduceBEq, Int.reduceEq, Int.reduceToNat])
  · simp -implicitDefEqProofs (disch := (first | omega | (simp -implicitDefEqProofs only [Heap.n_push, Heap.n_set, Blk.size_set, Blk.size_puts, Blk.size_putA, w_of_size, w_rep_size, List.length_cons, List.length_nil, ne_eq] <;> omega) | fail)) only [go_sem, Nat.reduceAdd, Nat.reduceSub, Nat.reduceMul, Nat.reduceLT, Nat.reduceMod, Nat.reduceDiv, Nat.reduceEqDiff, Nat.reduceBEq, Nat.reduceLeDiff, ↓reduceIte, reduceCtorEq, Int.reduceAdd, Int.reduceSub, Int.reduceLT, Int.reduceLE, Int.reduceBEq, Int.reduceEq, Int.reduceToNat, ir17, LC.fst, LC.snd, ↓hone1, ↓hone2]
    exact fin0 _ _ hpk (by omega) (by simp -implicitDefEqProofs (disch := (first | omega | (simp -implicitDefEqProofs only [Heap.n_push, Heap.n_set, Blk.size_set, Blk.size_puts, Blk.size_putA, w_of_size, w_rep_size, List.length_cons, List.length_nil, ne_eq] <;> omega) | fail)) only [go_sem, Nat.reduceAdd, Nat.reduceSub, Nat.reduceMul, Nat.reduceLT, Nat.reduceMod, Nat.reduceDiv, Nat.reduceEqDiff, Nat.reduceBEq, Nat.reduceLeDiff, ↓reduceIte, reduceCtorEq, Int.reduceAdd, Int.reduceSub, Int.reduceLT, Int.reduceLE, Int.reduceBEq, Int.reduceEq, Int.reduceToNat]) (by simp -implicitDefEqProofs (disch := (first | omega | (simp -implicitDefEqProofs only [Heap.n_push, Heap.n_set, Blk.size_set, Blk.size_puts, Blk.size_putA, w_of_size, w_rep_size, List.length_cons, List.length_nil, ne_eq] <;> omega) | fail)) only [go_sem, Nat.reduceAdd, Nat.reduceSub, Nat.reduceMul, Nat.reduceLT, Nat.reduceMod, Nat.reduceDiv, Nat.reduceEqDiff, Nat.reduceBEq, Nat.reduceLeDiff, ↓reduceIte, reduceCtorEq, Int.reduceAdd, Int.reduceSub, Int.reduceLT, Int.reduceLE, Int.reduceBEq, Int.reduceEq, Int.reduceToNat]) (by simp -implicitDefEqProofs (disch := (first | omega | (simp -implicitDefEqProofs only [Heap.n_push, Heap.n_set, Blk.size_set, Blk.size_puts, Blk.size_putA, w_of_size, w_rep_size, List.length_cons, List.length_nil, ne_eq] <;> omega) | fail)) only [go_sem, Nat.reduceAdd, Nat.reduceSub, Nat.reduceMul, Nat.reduceLT, Nat.reduceMod, Nat.reduceDiv, Nat.reduceEqDiff, Nat.reduceBEq, Nat.reduceLeDiff, ↓reduceIte, reduceCtorEq, Int.reduceAdd, Int.reduceSub, Int.reduceLT, Int.reduceLE, Int.reduceBEq, Int.reduceEq, Int.reduceToNat])
end Go.Proofs.Ythdkhbhicimpdaa
