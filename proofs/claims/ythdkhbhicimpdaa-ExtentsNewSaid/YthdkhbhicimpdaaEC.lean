/- ExtentsNew: the law. -/
import Derived.Test.YthdkhbhicimpdaaEB
import Derived.Test.YthdkhbhicimpdaaV4
set_option linter.unusedVariables false
set_option linter.unusedSimpArgs false
set_option linter.unusedSimpArgs false
set_option maxRecDepth 100000
set_option linter.unusedVariables false
set_option linter.unusedSimpArgs false
namespace Go.Proofs.Ythdkhbhicimpdaa
open Go Go.Vm
attribute [-go_sem] sz_113
def WN (H : Heap) : Set' := fun b => H.n ≤ b
theorem qi_of {h : Go.Vm.Heap} {v : Go.Vm.V} (hv : Go.Vm.VSl h 1 (Go.Vm.VIs h (.int .i64)) v) : ∃ m q, QI h v m q := by
  rcases hv with rfl | ⟨a, rfl⟩ | ⟨b, o, len, cap, c, ce, rfl, hlc, h0, hcm, hb, hsz, hc⟩
  · exact ⟨0, fun _ => 0, fun i hi => by omega, by omega, .inl ⟨rfl, .inl rfl⟩⟩
  · exact ⟨0, fun _ => 0, fun i hi => by omega, by omega, .inl ⟨rfl, .inr ⟨a, rfl⟩⟩⟩
  · have key : ∀ i, i < cap → ∃ n : Int, c.get (o + i) = .int .i64 n ∧ -9223372036854775808 ≤ n ∧ n ≤ 9223372036854775807 := fun i hi => by
      obtain ⟨n, hn, h1, h2⟩ := hc i hi
      rw [Nat.mul_one] at hn
      simp only [Go.Vm.Blk.gets] at hn
      exact ⟨n, (List.cons.inj hn).1, h1, h2⟩
    refine ⟨len, fun i => match c.get (o + i) with | .int _ n => n | _ => 0, fun i hi => ?_, by omega, .inr ⟨b, o, cap, true, c, ce, rfl, hb, by omega, hlc, fun i hi => ?_⟩⟩
    · obtain ⟨n, e, h1, h2⟩ := key i (by omega)
      rw [e]; exact ⟨h1, h2⟩
    · obtain ⟨n, e, _⟩ := key i (by omega)
      rw [e]
set_option maxHeartbeats 1000000 in
theorem new_loop3 {g : Heap} {R W S : Set'} {Q : Ex → Fr → Heap → Prop} {t : List It} {v : V} {bx bd rx rd qb hb x5 : Nat} {tb hk : Nat → Nat} {X : XS} {q : Nat → Int} {cc : Blk} (hx : ExtAt g bx bd tb X) (hr : RExt g S rx rd qb hb hk X) (hq : QI g v X.n q) (hcq : ∀ i, i < X.n → (X.count i : Int) = q i) (hR : ∀ b, R b)
    (c5 : g.get x5 = some (.cells cc 29)) (s5 : cc.size = 3) (g5 : cc.get 0 = .ptr (some (bx, 0)))
    (hk' : ∀ tr : Tr V, tr.get 5 = some (.ptr (some (x5, 0))) → resume (Try.prog : MP) R W none Q t (.exit 0) ⟨⟨70, tr⟩, []⟩ g)
    {f : Fr} (g0 : f.mks = []) (g1 : f.tm.n = 70) (f1 : f.tm.get 1 = some v) (f5 : f.tm.get 5 = some (.ptr (some (x5, 0)))) (f7 : f.tm.get 7 = some (.int .i64 0)) (f8 : f.tm.get 8 = some (.int .i64 0)) :
    GLoop (Try.prog : MP) R W none Q ir3_l0 t f g := by
  refine GLoop.inv hm (fun k f h' => h' = g ∧ f.mks = [] ∧ f.tm.n = 70 ∧ f.tm.get 1 = some v ∧ f.tm.get 5 = some (.ptr (some (x5, 0))) ∧ ∃ i : Nat, i + k = X.n ∧ f.tm.get 8 = some (.int .i64 i) ∧ f.tm.get 7 = some (.int .i64 (sumN X.count i))) X.n ?_ ?_
  · exact ⟨rfl, g0, g1, f1, f5, 0, by omega, f8, f7⟩
  clear g0 g1 f1 f5 f7 f8
  rintro k ⟨⟨n', tr⟩, mks⟩ h' ⟨rfl, hmk, hn, t1, t5, i, hi, t8, t7⟩
  simp only [Tm.get_mk] at hmk hn t1 t5 t7 t8
  subst hmk hn
  have hlv := hq.lenV
  have hp8 := hr.pos
  have hR5 := hR x5
  by_cases him : i < X.n
  · rcases hq.at' with ⟨h0, _⟩ | ⟨b, o, cap, ex, cq, ce, rfl, hb', hsz, hcap, hget⟩
    · omega
    have hqi := hget i him
    rw [← hcq i him] at hqi
    have hRb := hR b
    have hfs := hr.fst i him
    have hft := hr.fit i him
    have hne : ∀ x : Int, (x != x) = false := fun x => by simp
    have hpv : partV X (i : Int) = [.int .i64 (sumN X.count i), .int .i64 (X.count i), .bool true] := by
      unfold partV
      rw [if_pos (by omega)]
      simp only [Int.toNat_natCast]
      rw [hfs]
    simp -implicitDefEqProofs (disch := (first | omega | (simp -implicitDefEqProofs only [szs, ne_eq] <;> omega) | fail)) only [go_sem, Nat.reduceAdd, Nat.reduceSub, Nat.reduceMul, Nat.reduceLT, Nat.reduceMod, Nat.reduceDiv, Nat.reduceEqDiff, Nat.reduceBEq, Nat.reduceLeDiff, ↓reduceIte, reduceCtorEq, Int.reduceAdd, Int.reduceSub, Int.reduceLT, Int.reduceLE, Int.reduceBEq, Int.reduceEq, Int.reduceToNat, ir3_l0, t1, t5, t7, t8, c5, s5, g5, hR5]
    refine GCall.of (part_uni hx (fun b _ => hR b) i) ?_
    rintro r h2 ⟨rfl, rfl⟩
    rw [hpv]
    simp -implicitDefEqProofs (disch := (first | omega | (simp -implicitDefEqProofs only [szs, ne_eq] <;> omega) | fail)) only [go_sem, Nat.reduceAdd, Nat.reduceSub, Nat.reduceMul, Nat.reduceLT, Nat.reduceMod, Nat.reduceDiv, Nat.reduceEqDiff, Nat.reduceBEq, Nat.reduceLeDiff, ↓reduceIte, reduceCtorEq, Int.reduceAdd, Int.reduceSub, Int.reduceLT, Int.reduceLE, Int.reduceBEq, Int.reduceEq, Int.reduceToNat, t1, t5, t7, t8, hb', hqi, hRb, hne, undefV]
    exact ⟨k - 1, by omega, i + 1, by omega, congrArg _ (by omega), congrArg _ (by simp only [sumN]; omega)⟩
  · simp -implicitDefEqProofs (disch := (first | omega | (simp -implicitDefEqProofs only [szs, ne_eq] <;> omega) | fail)) only [go_sem, Nat.reduceAdd, Nat.reduceSub, Nat.reduceMul, Nat.reduceLT, Nat.reduceMod, Nat.reduceDiv, Nat.reduceEqDiff, Nat.reduceBEq, Nat.reduceLeDiff, ↓reduceIte, reduceCtorEq, Int.reduceAdd, Int.reduceSub, Int.reduceLT, Int.reduceLE, Int.reduceBEq, Int.reduceEq, Int.reduceToNat, ir3_l0, t1, t5, t7, t8, ↓hlv]
    exact hk' _ (by simp -implicitDefEqProofs (disch := (first | omega | (simp -implicitDefEqProofs only [szs, ne_eq] <;> omega) | fail)) only [go_sem, Nat.reduceAdd, Nat.reduceSub, Nat.reduceMul, Nat.reduceLT, Nat.reduceMod, Nat.reduceDiv, Nat.reduceEqDiff, Nat.reduceBEq, Nat.reduceLeDiff, ↓reduceIte, reduceCtorEq, Int.reduceAdd, Int.reduceSub, Int.reduceLT, Int.reduceLE, Int.reduceBEq, Int.reduceEq, Int.reduceToNat, t5])
set_option maxHeartbeats 1000000 in
theorem new_law {H : Heap} {n : Int} {v : V} {m : Nat} {q : Nat → Int} (hq : QI H v m q) :
    SF Try.prog 3 [.int .i64 n, v] H (fun _ => True) (WN H) fun r _ => r = .bool true := by
  have hlv := hq.lenV
  refine SF.go hm Try.func3 ir3_eq ?_
  simp -implicitDefEqProofs (disch := (first | omega | (simp -implicitDefEqProofs only [szs, ne_eq] <;> omega) | fail)) only [go_sem, Nat.reduceAdd, Nat.reduceSub, Nat.reduceMul, Nat.reduceLT, Nat.reduceMod, Nat.reduceDiv, Nat.reduceEqDiff, Nat.reduceBEq, Nat.reduceLeDiff, ↓reduceIte, reduceCtorEq, Int.reduceAdd, Int.reduceSub, Int.reduceLT, Int.reduceLE, Int.reduceBEq, Int.reduceEq, Int.reduceToNat, ir3]
  refine GCall.of (much_ok (mq := m) (m := 0) hlv hq.len ⟨by omega, .inl ⟨rfl, .inl rfl⟩⟩ fun b => trivial) ?_
  rintro r h' ⟨⟨b1, rfl, hb1⟩, rfl⟩
  cases b1 with
  | true =>
    simp -implicitDefEqProofs (disch := (first | omega | (simp -implicitDefEqProofs only [szs, ne_eq] <;> omega) | fail)) only [go_sem, Nat.reduceAdd, Nat.reduceSub, Nat.reduceMul, Nat.reduceLT, Nat.reduceMod, Nat.reduceDiv, Nat.reduceEqDiff, Nat.reduceBEq, Nat.reduceLeDiff, ↓reduceIte, reduceCtorEq, Int.reduceAdd, Int.reduceSub, Int.reduceLT, Int.reduceLE, Int.reduceBEq, Int.reduceEq, Int.reduceToNat, undefV]
    refine GCall.of (known_ok _ _ _) ?_
    rintro r h' ⟨rfl, rfl⟩
    simp -implicitDefEqProofs (disch := (first | omega | (simp -implicitDefEqProofs only [szs, ne_eq] <;> omega) | fail)) only [go_sem, Nat.reduceAdd, Nat.reduceSub, Nat.reduceMul, Nat.reduceLT, Nat.reduceMod, Nat.reduceDiv, Nat.reduceEqDiff, Nat.reduceBEq, Nat.reduceLeDiff, ↓reduceIte, reduceCtorEq, Int.reduceAdd, Int.reduceSub, Int.reduceLT, Int.reduceLE, Int.reduceBEq, Int.reduceEq, Int.reduceToNat]
  | false =>
  obtain ⟨_, hm20⟩ := hb1 rfl
  simp -implicitDefEqProofs (disch := (first | omega | (simp -implicitDefEqProofs only [szs, ne_eq] <;> omega) | fail)) only [go_sem, Nat.reduceAdd, Nat.reduceSub, Nat.reduceMul, Nat.reduceLT, Nat.reduceMod, Nat.reduceDiv, Nat.reduceEqDiff, Nat.reduceBEq, Nat.reduceLeDiff, ↓reduceIte, reduceCtorEq, Int.reduceAdd, Int.reduceSub, Int.reduceLT, Int.reduceLE, Int.reduceBEq, Int.reduceEq, Int.reduceToNat, undefV]
  refine GCall.of (begin_ok hq hm20 fun b => trivial) ?_
  rintro r g ⟨ng, kg, x, d, rr, rfl, hB⟩
  have hW : h'.n ≤ g.n ∨ WN h' g.n := .inl ng
  rcases hB with ⟨rfl, rfl, hd⟩ | hB
  · rcases hd with rfl | ⟨b, rfl⟩
    · simp -implicitDefEqProofs (disch := (first | omega | (simp -implicitDefEqProofs only [szs, ne_eq] <;> omega) | fail)) only [go_sem, Nat.reduceAdd, Nat.reduceSub, Nat.reduceMul, Nat.reduceLT, Nat.reduceMod, Nat.reduceDiv, Nat.reduceEqDiff, Nat.reduceBEq, Nat.reduceLeDiff, ↓reduceIte, reduceCtorEq, Int.reduceAdd, Int.reduceSub, Int.reduceLT, Int.reduceLE, Int.reduceBEq, Int.reduceEq, Int.reduceToNat, undefV, Option.isNone_none, hW]
      refine GCall.of (known_ok _ _ _) ?_
      rintro r h' ⟨rfl, rfl⟩
      simp -implicitDefEqProofs (disch := (first | omega | (simp -implicitDefEqProofs only [szs, ne_eq] <;> omega) | fail)) only [go_sem, Nat.reduceAdd, Nat.reduceSub, Nat.reduceMul, Nat.reduceLT, Nat.reduceMod, Nat.reduceDiv, Nat.reduceEqDiff, Nat.reduceBEq, Nat.reduceLeDiff, ↓reduceIte, reduceCtorEq, Int.reduceAdd, Int.reduceSub, Int.reduceLT, Int.reduceLE, Int.reduceBEq, Int.reduceEq, Int.reduceToNat]
    · simp -implicitDefEqProofs (disch := (first | omega | (simp -implicitDefEqProofs only [szs, ne_eq] <;> omega) | fail)) only [go_sem, Nat.reduceAdd, Nat.reduceSub, Nat.reduceMul, Nat.reduceLT, Nat.reduceMod, Nat.reduceDiv, Nat.reduceEqDiff, Nat.reduceBEq, Nat.reduceLeDiff, ↓reduceIte, reduceCtorEq, Int.reduceAdd, Int.reduceSub, Int.reduceLT, Int.reduceLE, Int.reduceBEq, Int.reduceEq, Int.reduceToNat, undefV, Option.isNone_none, hW]
      refine GCall.of (known_ok _ _ _) ?_
      rintro r h' ⟨rfl, rfl⟩
      simp -implicitDefEqProofs (disch := (first | omega | (simp -implicitDefEqProofs only [szs, ne_eq] <;> omega) | fail)) only [go_sem, Nat.reduceAdd, Nat.reduceSub, Nat.reduceMul, Nat.reduceLT, Nat.reduceMod, Nat.reduceDiv, Nat.reduceEqDiff, Nat.reduceBEq, Nat.reduceLeDiff, ↓reduceIte, reduceCtorEq, Int.reduceAdd, Int.reduceSub, Int.reduceLT, Int.reduceLE, Int.reduceBEq, Int.reduceEq, Int.reduceToNat]
  · obtain ⟨u, S, S2, rx, rd, qb, hb, hk, rfl, rfl, rfl, hu, hr, hd, hS, hm', hn', hcq⟩ := hB
    obtain ⟨g1, eg1⟩ : ∃ g1, (g.push (.cells (Blk.of [.ptr none, .ptr none, .ptr none]) 29)).set g.n (.cells ((((Blk.of [.ptr none, .ptr none, .ptr none]).set 0 (.ptr (some (u.bx, 0)))).set 1 (.ptr (some (u.bd, 0)))).set 2 (.ptr (some (rx, 0)))) 29) = g1 := ⟨_, rfl⟩
    have n1 : g1.n = g.n + 1 := by rw [← eg1]; simp
    have k1 : ∀ b, b < g.n → g1.get b = g.get b := fun b hb => by rw [← eg1, w_set_ne (by simp) (by omega), w_push_ne (by omega)]
    have c1 : g1.get g.n = some (.cells ((((Blk.of [.ptr none, .ptr none, .ptr none]).set 0 (.ptr (some (u.bx, 0)))).set 1 (.ptr (some (u.bd, 0)))).set 2 (.ptr (some (rx, 0)))) 29) := by rw [← eg1, w_set_eq (by simp) rfl]
    simp -implicitDefEqProofs (disch := (first | omega | (simp -implicitDefEqProofs only [szs, ne_eq] <;> omega) | fail)) only [go_sem, Nat.reduceAdd, Nat.reduceSub, Nat.reduceMul, Nat.reduceLT, Nat.reduceMod, Nat.reduceDiv, Nat.reduceEqDiff, Nat.reduceBEq, Nat.reduceLeDiff, ↓reduceIte, reduceCtorEq, Int.reduceAdd, Int.reduceSub, Int.reduceLT, Int.reduceLE, Int.reduceBEq, Int.reduceEq, Int.reduceToNat, undefV, Option.isNone_none, Option.isNone_some, hW, eg1, c1]
    subst hm'
    have hu1 := hu.old k1
    have hr1 := hr.old k1
    have hd1 := hd.old k1
    have hq1 := (hq.old kg).old k1
    refine new_loop3 (x5 := g.n) (v := v) (q := q) hu1.x hr1 hq1 hcq (fun _ => trivial) c1 rfl rfl ?_ rfl rfl (by simp -implicitDefEqProofs (disch := (first | omega | (simp -implicitDefEqProofs only [szs, ne_eq] <;> omega) | fail)) only [go_sem, Nat.reduceAdd, Nat.reduceSub, Nat.reduceMul, Nat.reduceLT, Nat.reduceMod, Nat.reduceDiv, Nat.reduceEqDiff, Nat.reduceBEq, Nat.reduceLeDiff, ↓reduceIte, reduceCtorEq, Int.reduceAdd, Int.reduceSub, Int.reduceLT, Int.reduceLE, Int.reduceBEq, Int.reduceEq, Int.reduceToNat]) (by simp -implicitDefEqProofs (disch := (first | omega | (simp -implicitDefEqProofs only [szs, ne_eq] <;> omega) | fail)) only [go_sem, Nat.reduceAdd, Nat.reduceSub, Nat.reduceMul, Nat.reduceLT, Nat.reduceMod, Nat.reduceDiv, Nat.reduceEqDiff, Nat.reduceBEq, Nat.reduceLeDiff, ↓reduceIte, reduceCtorEq, Int.reduceAdd, Int.reduceSub, Int.reduceLT, Int.reduceLE, Int.reduceBEq, Int.reduceEq, Int.reduceToNat]) (by simp -implicitDefEqProofs (disch := (first | omega | (simp -implicitDefEqProofs only [szs, ne_eq] <;> omega) | fail)) only [go_sem, Nat.reduceAdd, Nat.reduceSub, Nat.reduceMul, Nat.reduceLT, Nat.reduceMod, Nat.reduceDiv, Nat.reduceEqDiff, Nat.reduceBEq, Nat.reduceLeDiff, ↓reduceIte, reduceCtorEq, Int.reduceAdd, Int.reduceSub, Int.reduceLT, Int.reduceLE, Int.reduceBEq, Int.reduceEq, Int.reduceToNat]) (by simp -implicitDefEqProofs (disch := (first | omega | (simp -implicitDefEqProofs only [szs, ne_eq] <;> omega) | fail)) only [go_sem, Nat.reduceAdd, Nat.reduceSub, Nat.reduceMul, Nat.reduceLT, Nat.reduceMod, Nat.reduceDiv, Nat.reduceEqDiff, Nat.reduceBEq, Nat.reduceLeDiff, ↓reduceIte, reduceCtorEq, Int.reduceAdd, Int.reduceSub, Int.reduceLT, Int.reduceLE, Int.reduceBEq, Int.reduceEq, Int.reduceToNat])
    intro tr t5
    simp -implicitDefEqProofs (disch := (first | omega | (simp -implicitDefEqProofs only [szs, ne_eq] <;> omega) | fail)) only [go_sem, Nat.reduceAdd, Nat.reduceSub, Nat.reduceMul, Nat.reduceLT, Nat.reduceMod, Nat.reduceDiv, Nat.reduceEqDiff, Nat.reduceBEq, Nat.reduceLeDiff, ↓reduceIte, reduceCtorEq, Int.reduceAdd, Int.reduceSub, Int.reduceLT, Int.reduceLE, Int.reduceBEq, Int.reduceEq, Int.reduceToNat, t5, c1]
    refine GCall.of (stands_ok hu1 hr1 hd1 (fun b hb => by have := hS b hb; omega) (fun _ => trivial) 0) ?_
    rintro r g2 ⟨rfl, n2, k2⟩
    simp -implicitDefEqProofs (disch := (first | omega | (simp -implicitDefEqProofs only [szs, ne_eq] <;> omega) | fail)) only [go_sem, Nat.reduceAdd, Nat.reduceSub, Nat.reduceMul, Nat.reduceLT, Nat.reduceMod, Nat.reduceDiv, Nat.reduceEqDiff, Nat.reduceBEq, Nat.reduceLeDiff, ↓reduceIte, reduceCtorEq, Int.reduceAdd, Int.reduceSub, Int.reduceLT, Int.reduceLE, Int.reduceBEq, Int.reduceEq, Int.reduceToNat, undefV]
    refine GCall.of (known_ok _ _ _) ?_
    rintro r g3 ⟨rfl, rfl⟩
    simp -implicitDefEqProofs (disch := (first | omega | (simp -implicitDefEqProofs only [szs, ne_eq] <;> omega) | fail)) only [go_sem, Nat.reduceAdd, Nat.reduceSub, Nat.reduceMul, Nat.reduceLT, Nat.reduceMod, Nat.reduceDiv, Nat.reduceEqDiff, Nat.reduceBEq, Nat.reduceLeDiff, ↓reduceIte, reduceCtorEq, Int.reduceAdd, Int.reduceSub, Int.reduceLT, Int.reduceLE, Int.reduceBEq, Int.reduceEq, Int.reduceToNat, undefV]
end Go.Proofs.Ythdkhbhicimpdaa
