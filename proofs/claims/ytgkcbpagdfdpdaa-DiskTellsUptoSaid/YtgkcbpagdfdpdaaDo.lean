/- do: a disk and the document's disk, side by side. -/
import Derived.Test.YtgkcbpagdfdpdaaCp2
import Derived.Test.YtgkcbpagdfdpdaaLB
set_option linter.unusedVariables false
set_option linter.unusedSimpArgs false
set_option linter.unusedSimpArgs false
set_option maxRecDepth 100000
set_option linter.unusedVariables false
set_option linter.unusedSimpArgs false
namespace Go.Proofs.Ytgkcbpagdfdpdaa
open Go Go.Vm
attribute [-go_sem] sz_67
/-- A disk and the document's, apart, in the blocks of P. -/
structure Pair (P : Set') (h : Heap) (bd : Nat) (L : DL) (D : DS) (S : Set') (rd fb pb : Nat) : Prop where
  d : DiskAt h bd L D
  r : RefX h S rd fb pb D
  sep : ∀ b, Foot bd L D b → ¬ S b
  dP : ∀ b, Foot bd L D b → P b
  sP : ∀ b, S b → P b
  sl : ∀ b, S b → b < h.n
theorem Pair.old {P : Set'} {h h' : Heap} {bd : Nat} {L : DL} {D : DS} {S : Set'} {rd fb pb : Nat} (p : Pair P h bd L D S rd fb pb) (hn : h.n ≤ h'.n) (hk : ∀ b, b < h.n → h'.get b = h.get b) : Pair P h' bd L D S rd fb pb :=
  ⟨p.d.old hk, p.r.old hk, p.sep, p.dP, p.sP, fun b hb => by have := p.sl b hb; omega⟩
theorem Pair.mono {P P' : Set'} {h : Heap} {bd : Nat} {L : DL} {D : DS} {S : Set'} {rd fb pb : Nat} (p : Pair P h bd L D S rd fb pb) (hk : ∀ b, P b → P' b) : Pair P' h bd L D S rd fb pb :=
  ⟨p.d, p.r, p.sep, fun b hb => hk b (p.dP b hb), fun b hb => hk b (p.sP b hb), p.sl⟩
theorem Pair.same {P : Set'} {h h' : Heap} {bd : Nat} {L : DL} {D : DS} {S : Set'} {rd fb pb : Nat} (p : Pair P h bd L D S rd fb pb) (hn : h.n ≤ h'.n) (hk : ∀ b, P b → b < h.n → h'.get b = h.get b) : Pair P h' bd L D S rd fb pb :=
  ⟨p.d.same fun b hb => hk b (p.dP b hb), p.r.same fun b hb => hk b (p.sP b hb), p.sep, p.dP, p.sP, fun b hb => by have := p.sl b hb; omega⟩
theorem Pair.exact {P : Set'} {h : Heap} {bd : Nat} {L : DL} {D : DS} {S : Set'} {rd fb pb : Nat} (p : Pair P h bd L D S rd fb pb) : Pair (fun b => (Foot bd L D b ∨ S b) ∧ P b) h bd L D S rd fb pb :=
  ⟨p.d, p.r, p.sep, fun b hb => ⟨.inl hb, p.dP b hb⟩, fun b hb => ⟨.inr hb, p.sP b hb⟩, p.sl⟩
/-- What a step leaves. -/
def DoQ (P : Set') (n : Nat) (K : Nat) (v : V) (h' : Heap) : Prop := ∃ bd L D S rd fb pb, v = .tuple [.ptr (some (bd, 0)), .ptr (some (rd, 0)), .bool true] ∧ Pair (fun b => P b ∨ n ≤ b) h' bd L D S rd fb pb ∧ ∀ s, (D.pe s).length ≤ K + 1
theorem stD (h : Heap) (kd n1 n2 : Int) (d kv : V) : ∃ h2, (h.push (O.cells (Blk.of [V.int IntKind.i64 kd, V.int IntKind.i64 n1, V.int IntKind.i64 n2, d, kv]) 36)) = h2 ∧ h2.n = h.n + 1 ∧ (∃ s, h2.get h.n = some (.cells s 36) ∧ s.size = 5 ∧ s.get 0 = .int .i64 kd ∧ s.get 1 = .int .i64 n1 ∧ s.get 2 = .int .i64 n2 ∧ s.get 3 = d ∧ s.get 4 = kv) ∧ ∀ b, b < h.n → h2.get b = h.get b :=
  ⟨_, rfl, by simp, ⟨_, w_push_eq rfl _, rfl, rfl, rfl, rfl, rfl, rfl⟩, fun b hb => w_push_ne (by omega) _⟩
theorem flush_few (D : DS) (a m s : Nat) : ((D.flush a m).pe s).length ≤ (D.pe s).length := by
  unfold DS.flush
  simp only []
  split <;> simp
set_option maxHeartbeats 2000000 in
theorem do_flush {K : Nat} {h : Heap} {P W S : Set'} {bd rd fb pb : Nat} {L : DL} {D : DS} (p : Pair P h bd L D S rd fb pb) (few : ∀ s, (D.pe s).length ≤ K) (hW : ∀ b, P b → W b) {a m : Int} (ha : -9223372036854775808 ≤ a ∧ a ≤ 9223372036854775807) (d kv : V) (hd1 : d.one = true) (hk1 : kv.one = true) :
    SF ⟨Try.prog, true⟩ 25 [.ptr (some (bd, 0)), .ptr (some (rd, 0)), .agg [.int .i64 2, .int .i64 a, .int .i64 m, d, kv]] h (fun _ => True) W (DoQ P h.n K) := by
  refine SF.go hm Try.func25 ir25_eq ?_
  obtain ⟨h2, e2, n2, ⟨sb, s0, s1, y0, y1, y2, y3, y4⟩, k2⟩ := stD h 2 a m d kv
  have p2 := p.old (by omega) k2
  have hd := p2.d
  have hr := p2.r
  have hW2 : ∀ b, P b → (h.n ≤ b ∨ W b) := fun b hb => .inr (hW b hb)
  simp -implicitDefEqProofs (disch := (first | omega | (simp -implicitDefEqProofs only [szs, ne_eq] <;> omega) | fail)) only [go_sem, Nat.reduceAdd, Nat.reduceSub, Nat.reduceMul, Nat.reduceLT, Nat.reduceMod, Nat.reduceDiv, Nat.reduceEqDiff, Nat.reduceBEq, Nat.reduceLeDiff, ↓reduceIte, reduceCtorEq, Int.reduceAdd, Int.reduceSub, Int.reduceLT, Int.reduceLE, Int.reduceBEq, Int.reduceEq, Int.reduceToNat, ir25, e2, s0, s1, y0, y1, y2, hd1, hk1, undefV]
  by_cases hb : m < 0 ∨ a < 0 ∨ a > D.n ∨ m > D.n - a
  · refine GCallD.of (R' := fun _ => True) (W' := fun _ => False) (flush_bad hd trivial hb ha) ?_
    rintro v h2 ⟨rfl, rfl⟩
    simp -implicitDefEqProofs (disch := (first | omega | (simp -implicitDefEqProofs only [szs, ne_eq] <;> omega) | fail)) only [go_sem, Nat.reduceAdd, Nat.reduceSub, Nat.reduceMul, Nat.reduceLT, Nat.reduceMod, Nat.reduceDiv, Nat.reduceEqDiff, Nat.reduceBEq, Nat.reduceLeDiff, ↓reduceIte, reduceCtorEq, Int.reduceAdd, Int.reduceSub, Int.reduceLT, Int.reduceLE, Int.reduceBEq, Int.reduceEq, Int.reduceToNat]
    refine GCallD.of (R' := fun _ => True) (W' := fun _ => False) (num_ok _) ?_
    rintro v h2 ⟨rfl, rfl⟩
    simp -implicitDefEqProofs (disch := (first | omega | (simp -implicitDefEqProofs only [szs, ne_eq] <;> omega) | fail)) only [go_sem, Nat.reduceAdd, Nat.reduceSub, Nat.reduceMul, Nat.reduceLT, Nat.reduceMod, Nat.reduceDiv, Nat.reduceEqDiff, Nat.reduceBEq, Nat.reduceLeDiff, ↓reduceIte, reduceCtorEq, Int.reduceAdd, Int.reduceSub, Int.reduceLT, Int.reduceLE, Int.reduceBEq, Int.reduceEq, Int.reduceToNat, s0, s1, y0, y1, y2]
    refine GCallD.of (R' := fun _ => True) (W' := fun _ => False) (rflush_bad hr.at (fun _ => trivial) hb ha) ?_
    rintro v h2 ⟨rfl, rfl⟩
    simp -implicitDefEqProofs (disch := (first | omega | (simp -implicitDefEqProofs only [szs, ne_eq] <;> omega) | fail)) only [go_sem, Nat.reduceAdd, Nat.reduceSub, Nat.reduceMul, Nat.reduceLT, Nat.reduceMod, Nat.reduceDiv, Nat.reduceEqDiff, Nat.reduceBEq, Nat.reduceLeDiff, ↓reduceIte, reduceCtorEq, Int.reduceAdd, Int.reduceSub, Int.reduceLT, Int.reduceLE, Int.reduceBEq, Int.reduceEq, Int.reduceToNat, undefV]
    refine ⟨?_, ?_, ?_⟩
    · simp only [List.not_mem_nil, or_false, false_or, and_false, false_and, false_implies, implies_true, not_false_eq_true, List.mem_singleton, List.mem_cons, and_true, true_and, forall_const]
      all_goals (try and_intros)
      all_goals first | (intros; omega) | (rintro b (⟨_, hf⟩ | _) ⟨_, rfl⟩ <;> first | omega | exact absurd (p.d.lt _ hf) (Nat.lt_irrefl _))
    · intros; exact (by assumption : False).elim
    exact ⟨bd, L, D, S, rd, fb, pb, rfl, p2.mono fun _ h => .inl h, fun s => by have := few s; omega⟩
  · obtain ⟨a', rfl⟩ : ∃ a' : Nat, a = a' := ⟨a.toNat, by omega⟩
    obtain ⟨m', rfl⟩ : ∃ m' : Nat, m = m' := ⟨m.toNat, by omega⟩
    refine GCallD.of (R' := fun _ => True) (W' := Foot bd L D) (flush_ok hd (fun _ _ => trivial) (fun _ h => h) (a := a') (m := m') (by omega)).kept ?_
    rintro v h3 ⟨⟨rfl, hd3⟩, vf3⟩
    have hr3 := hr.same (h' := h3) fun b hb hl => vf3.get b hl fun hf => p.sep b hf hb
    simp -implicitDefEqProofs (disch := (first | omega | (simp -implicitDefEqProofs only [szs, ne_eq] <;> omega) | fail)) only [go_sem, Nat.reduceAdd, Nat.reduceSub, Nat.reduceMul, Nat.reduceLT, Nat.reduceMod, Nat.reduceDiv, Nat.reduceEqDiff, Nat.reduceBEq, Nat.reduceLeDiff, ↓reduceIte, reduceCtorEq, Int.reduceAdd, Int.reduceSub, Int.reduceLT, Int.reduceLE, Int.reduceBEq, Int.reduceEq, Int.reduceToNat]
    refine GCallD.of (R' := fun _ => True) (W' := fun _ => False) (num_ok _) ?_
    rintro v h3 ⟨rfl, rfl⟩
    have s0' := (vf3.get h.n (Heap.lt_of_get s0) (fun hf => by have := p.d.lt _ hf; omega)).trans s0
    simp -implicitDefEqProofs (disch := (first | omega | (simp -implicitDefEqProofs only [szs, ne_eq] <;> omega) | fail)) only [go_sem, Nat.reduceAdd, Nat.reduceSub, Nat.reduceMul, Nat.reduceLT, Nat.reduceMod, Nat.reduceDiv, Nat.reduceEqDiff, Nat.reduceBEq, Nat.reduceLeDiff, ↓reduceIte, reduceCtorEq, Int.reduceAdd, Int.reduceSub, Int.reduceLT, Int.reduceLE, Int.reduceBEq, Int.reduceEq, Int.reduceToNat, s0', s1, y0, y1, y2]
    refine GCallD.of (R' := fun _ => True) (W' := S) (rflush_ok hr3 (fun _ => trivial) (fun _ h => h) (a := a') (m := m') (by omega)).kept ?_
    rintro v h4 ⟨⟨rfl, hr4⟩, vf4⟩
    simp -implicitDefEqProofs (disch := (first | omega | (simp -implicitDefEqProofs only [szs, ne_eq] <;> omega) | fail)) only [go_sem, Nat.reduceAdd, Nat.reduceSub, Nat.reduceMul, Nat.reduceLT, Nat.reduceMod, Nat.reduceDiv, Nat.reduceEqDiff, Nat.reduceBEq, Nat.reduceLeDiff, ↓reduceIte, reduceCtorEq, Int.reduceAdd, Int.reduceSub, Int.reduceLT, Int.reduceLE, Int.reduceBEq, Int.reduceEq, Int.reduceToNat, undefV]
    refine ⟨?_, ?_, ?_⟩
    · simp only [List.not_mem_nil, or_false, false_or, and_false, false_and, false_implies, implies_true, not_false_eq_true, List.mem_singleton, List.mem_cons, and_true, true_and, forall_const]
      all_goals (try and_intros)
      all_goals first | (intros; omega) | (rintro b (⟨_, hf⟩ | _) ⟨_, rfl⟩ <;> first | omega | exact absurd (p.d.lt _ hf) (Nat.lt_irrefl _))
    · and_intros
      all_goals (intros; first | exact hW2 _ (p.dP _ (by assumption)) | exact hW2 _ (p.sP _ (by assumption)) | exact (by assumption : False).elim)
    have n3 := vf3.n
    have n4 := vf4.n
    refine ⟨bd, L, D.flush a' m', Rn S h3.n h4.n, rd, fb, pb, rfl, ⟨hd3.same fun b hb hl => vf4.get b hl (p.sep b (Foot.flush hb)), hr4, fun b hb hs => ?_, fun b hb => .inl (p.dP b (Foot.flush hb)), fun b hb => ?_, fun b hb => ?_⟩, fun s => ?_⟩
    · rcases hs with hs | hs
      · exact p.sep b (Foot.flush hb) hs
      · have := p.d.lt _ (Foot.flush hb); omega
    · rcases hb with hb | hb
      · exact .inl (p.sP b hb)
      · exact .inr (by omega)
    · rcases hb with hb | hb
      · have := p.sl b hb; omega
      · exact hb.2
    · have := flush_few D a' m' s
      have := few s
      omega
set_option maxHeartbeats 2000000 in
theorem do_other {K : Nat} {h : Heap} {P W S : Set'} {bd rd fb pb : Nat} {L : DL} {D : DS} (p : Pair P h bd L D S rd fb pb) (few : ∀ s, (D.pe s).length ≤ K) {kd a m : Int} (hk : kd ≠ 1 ∧ kd ≠ 2 ∧ kd ≠ 3 ∧ kd ≠ 4 ∧ kd ≠ 5) (d kv : V) (hd1 : d.one = true) (hk1 : kv.one = true) :
    SF ⟨Try.prog, true⟩ 25 [.ptr (some (bd, 0)), .ptr (some (rd, 0)), .agg [.int .i64 kd, .int .i64 a, .int .i64 m, d, kv]] h (fun _ => True) W (DoQ P h.n K) := by
  refine SF.go hm Try.func25 ir25_eq ?_
  obtain ⟨h2, e2, n2, ⟨sb, s0, s1, y0, y1, y2, y3, y4⟩, k2⟩ := stD h kd a m d kv
  obtain ⟨c1, c2, c3, c4, c5⟩ := hk
  simp -implicitDefEqProofs (disch := (first | omega | (simp -implicitDefEqProofs only [szs, ne_eq] <;> omega) | fail)) only [go_sem, Nat.reduceAdd, Nat.reduceSub, Nat.reduceMul, Nat.reduceLT, Nat.reduceMod, Nat.reduceDiv, Nat.reduceEqDiff, Nat.reduceBEq, Nat.reduceLeDiff, ↓reduceIte, reduceCtorEq, Int.reduceAdd, Int.reduceSub, Int.reduceLT, Int.reduceLE, Int.reduceBEq, Int.reduceEq, Int.reduceToNat, ir25, e2, s0, s1, y0, y1, y2, hd1, hk1, undefV, c1, c2, c3, c4, c5]
  exact ⟨bd, L, D, S, rd, fb, pb, rfl, (p.old (by omega) k2).mono fun _ h => .inl h, fun s => by have := few s; omega⟩
theorem poke_ok {h : Heap} {R W : Set'} {bd : Nat} {L : DL} {D : DS} (hd : DiskAt h bd L D) (hR : ∀ b, R b) (hW : ∀ b, Foot bd L D b → W b) (few : (D.pe 0).length < 1000000000) {b : Nat} {cc : Blk} (hb : h.get b = some (.cells cc 5)) (hs : cc.size = 128) (hg : cc.gets 0 secN = secF 9) :
    SF Try.prog 13 [.ptr (some (bd, 0)), .int .i64 0, .slice (some (b, 0)) 128 128 true] h R W fun v h' => True := by
  have hp := hd.pos
  exact SF.mono (write_ok (s := 0) hd (fun b _ => hR b) hW (by omega) ⟨b, 0, 128, true, cc, 5, rfl, hb, by omega, hg⟩ (fun b _ _ _ _ _ => hR b) (secF_sec (by omega)) few) fun _ _ _ => trivial
set_option maxHeartbeats 2000000 in
theorem do_copy {K : Nat} {h : Heap} {P W S : Set'} {bd rd fb pb : Nat} {L : DL} {D : DS} (p : Pair P h bd L D S rd fb pb) (few : ∀ s, (D.pe s).length ≤ K) (hK : K < 1000000) (hW : ∀ b, P b → W b) {a m : Int} (d kv : V) (hd1 : d.one = true) (hk1 : kv.one = true) :
    SF ⟨Try.prog, true⟩ 25 [.ptr (some (bd, 0)), .ptr (some (rd, 0)), .agg [.int .i64 4, .int .i64 a, .int .i64 m, d, kv]] h (fun _ => True) W (DoQ P h.n K) := by
  refine SF.go hm Try.func25 ir25_eq ?_
  obtain ⟨h2, e2, n2, ⟨sb, s0, s1, y0, y1, y2, y3, y4⟩, k2⟩ := stD h 4 a m d kv
  have p2 := p.old (by omega) k2
  have hW2 : ∀ b, P b → (h.n ≤ b ∨ W b) := fun b hb => .inr (hW b hb)
  simp -implicitDefEqProofs (disch := (first | omega | (simp -implicitDefEqProofs only [szs, ne_eq] <;> omega) | fail)) only [go_sem, Nat.reduceAdd, Nat.reduceSub, Nat.reduceMul, Nat.reduceLT, Nat.reduceMod, Nat.reduceDiv, Nat.reduceEqDiff, Nat.reduceBEq, Nat.reduceLeDiff, ↓reduceIte, reduceCtorEq, Int.reduceAdd, Int.reduceSub, Int.reduceLT, Int.reduceLE, Int.reduceBEq, Int.reduceEq, Int.reduceToNat, ir25, e2, s0, s1, y0, y1, y2, hd1, hk1, undefV]
  refine GCall.of (copy_ok p2.d (fun _ => trivial)) ?_
  rintro v h3 ⟨bx, L', rfl, hd3, hf3, n3, k3⟩
  have p3 := p2.old n3 k3
  simp -implicitDefEqProofs (disch := (first | omega | (simp -implicitDefEqProofs only [szs, ne_eq] <;> omega) | fail)) only [go_sem, Nat.reduceAdd, Nat.reduceSub, Nat.reduceMul, Nat.reduceLT, Nat.reduceMod, Nat.reduceDiv, Nat.reduceEqDiff, Nat.reduceBEq, Nat.reduceLeDiff, ↓reduceIte, reduceCtorEq, Int.reduceAdd, Int.reduceSub, Int.reduceLT, Int.reduceLE, Int.reduceBEq, Int.reduceEq, Int.reduceToNat, Option.isNone_some, undefV]
  refine GCall.of (same_ok hd3 p3.d (fun _ _ => trivial) (fun _ _ => trivial)).any ?_
  rintro v h3 ⟨b, rfl, hb, rfl⟩
  obtain rfl : b = true := hb.2 ⟨⟨rfl, fun _ _ => rfl⟩, fun _ => rfl⟩
  simp -implicitDefEqProofs (disch := (first | omega | (simp -implicitDefEqProofs only [szs, ne_eq] <;> omega) | fail)) only [go_sem, Nat.reduceAdd, Nat.reduceSub, Nat.reduceMul, Nat.reduceLT, Nat.reduceMod, Nat.reduceDiv, Nat.reduceEqDiff, Nat.reduceBEq, Nat.reduceLeDiff, ↓reduceIte, reduceCtorEq, Int.reduceAdd, Int.reduceSub, Int.reduceLT, Int.reduceLE, Int.reduceBEq, Int.reduceEq, Int.reduceToNat, Option.isNone_some, undefV]
  refine GCall.of sector_ok.any ?_
  rintro v h4 ⟨rfl, n4, ⟨cc, q1, q2, q3, q4⟩, k4⟩
  have p4 := p3.old (by omega) k4
  simp -implicitDefEqProofs (disch := (first | omega | (simp -implicitDefEqProofs only [szs, ne_eq] <;> omega) | fail)) only [go_sem, Nat.reduceAdd, Nat.reduceSub, Nat.reduceMul, Nat.reduceLT, Nat.reduceMod, Nat.reduceDiv, Nat.reduceEqDiff, Nat.reduceBEq, Nat.reduceLeDiff, ↓reduceIte, reduceCtorEq, Int.reduceAdd, Int.reduceSub, Int.reduceLT, Int.reduceLE, Int.reduceBEq, Int.reduceEq, Int.reduceToNat]
  refine GCall.of (((poke_ok (W := Foot bd L D) p4.d (fun _ => trivial) (fun _ h => h) (by have := few 0; omega) q1 q2 q4).any.kept).foot (fun _ h => h) (fun b hb => hW2 b (p4.dP b hb))) ?_
  rintro v h5 ⟨_, vf5⟩
  have n5 := vf5.n
  simp -implicitDefEqProofs (disch := (first | omega | (simp -implicitDefEqProofs only [szs, ne_eq] <;> omega) | fail)) only [go_sem, Nat.reduceAdd, Nat.reduceSub, Nat.reduceMul, Nat.reduceLT, Nat.reduceMod, Nat.reduceDiv, Nat.reduceEqDiff, Nat.reduceBEq, Nat.reduceLeDiff, ↓reduceIte, reduceCtorEq, Int.reduceAdd, Int.reduceSub, Int.reduceLT, Int.reduceLE, Int.reduceBEq, Int.reduceEq, Int.reduceToNat]
  have hlt := p2.d.lt
  refine ⟨bx, L', D, S, rd, fb, pb, rfl, ⟨(hd3.old k4).same fun b hb hl => vf5.get b hl fun hf => ?_, p4.r.same fun b hb hl => vf5.get b hl fun hf => p.sep b hf hb, fun b hb hs => ?_, fun b hb => ?_, fun b hb => .inl (p.sP b hb), fun b hb => ?_⟩, fun s => by have := few s; omega⟩
  · have := (hf3 b hb).1; have := hlt b hf; omega
  · have := (hf3 b hb).1; have := p2.sl b hs; omega
  · have := (hf3 b hb).1; exact .inr (by omega)
  · have := p4.sl b hb; omega
set_option maxHeartbeats 2000000 in
theorem do_crash {K : Nat} {h : Heap} {P W S : Set'} {bd rd fb pb : Nat} {L : DL} {D : DS} (p : Pair P h bd L D S rd fb pb) (few : ∀ s, (D.pe s).length ≤ K) (hK : K < 1000000) (hW : ∀ b, P b → W b) {a m : Int} (d kv : V) (hd1 : d.one = true) (hk1 : kv.one = true) {mk : Nat} {ks kw : Nat → Int} (hkv : KeepV h (fun _ => True) kv mk ks kw) :
    SF ⟨Try.prog, true⟩ 25 [.ptr (some (bd, 0)), .ptr (some (rd, 0)), .agg [.int .i64 3, .int .i64 a, .int .i64 m, d, kv]] h (fun _ => True) W (DoQ P h.n K) := by
  refine SF.go hm Try.func25 ir25_eq ?_
  obtain ⟨h2, e2, n2, ⟨sb, s0, s1, y0, y1, y2, y3, y4⟩, k2⟩ := stD h 3 a m d kv
  have p2 := p.old (by omega) k2
  have hkv2 := hkv.old k2
  have hW2 : ∀ b, P b → (h.n ≤ b ∨ W b) := fun b hb => .inr (hW b hb)
  simp -implicitDefEqProofs (disch := (first | omega | (simp -implicitDefEqProofs only [szs, ne_eq] <;> omega) | fail)) only [go_sem, Nat.reduceAdd, Nat.reduceSub, Nat.reduceMul, Nat.reduceLT, Nat.reduceMod, Nat.reduceDiv, Nat.reduceEqDiff, Nat.reduceBEq, Nat.reduceLeDiff, ↓reduceIte, reduceCtorEq, Int.reduceAdd, Int.reduceSub, Int.reduceLT, Int.reduceLE, Int.reduceBEq, Int.reduceEq, Int.reduceToNat, ir25, e2, s0, s1, y0, y1, y2, y4, hd1, hk1, undefV]
  refine GCall.of ((crash_ok p2.d (fun _ _ => trivial) hkv2).any.kept) ?_
  rintro v h3 ⟨⟨k3, hq3⟩, vf3⟩
  have n3 := vf3.n
  have p3 := p2.old n3 k3
  have hkv3 := hkv2.old k3
  have s0' := (k3 _ (Heap.lt_of_get s0)).trans s0
  cases hc : crashF D ks kw mk with
  | none =>
    rw [hc] at hq3
    obtain rfl : v = _ := hq3
    simp -implicitDefEqProofs (disch := (first | omega | (simp -implicitDefEqProofs only [szs, ne_eq] <;> omega) | fail)) only [go_sem, Nat.reduceAdd, Nat.reduceSub, Nat.reduceMul, Nat.reduceLT, Nat.reduceMod, Nat.reduceDiv, Nat.reduceEqDiff, Nat.reduceBEq, Nat.reduceLeDiff, ↓reduceIte, reduceCtorEq, Int.reduceAdd, Int.reduceSub, Int.reduceLT, Int.reduceLE, Int.reduceBEq, Int.reduceEq, Int.reduceToNat, s0', s1, y4]
    refine GCall.of ((rcrash_ok p3.r p3.sl (fun _ => trivial) hkv3).any) ?_
    rintro v h4 ⟨⟨n4, k4⟩, hq4⟩
    rw [hc] at hq4
    obtain rfl : v = _ := hq4
    have p4 := p3.old n4 k4
    simp -implicitDefEqProofs (disch := (first | omega | (simp -implicitDefEqProofs only [szs, ne_eq] <;> omega) | fail)) only [go_sem, Nat.reduceAdd, Nat.reduceSub, Nat.reduceMul, Nat.reduceLT, Nat.reduceMod, Nat.reduceDiv, Nat.reduceEqDiff, Nat.reduceBEq, Nat.reduceLeDiff, ↓reduceIte, reduceCtorEq, Int.reduceAdd, Int.reduceSub, Int.reduceLT, Int.reduceLE, Int.reduceBEq, Int.reduceEq, Int.reduceToNat]
    refine GCall.of (num_ok 2).any ?_
    rintro w h4 ⟨rfl, rfl⟩
    simp -implicitDefEqProofs (disch := (first | omega | (simp -implicitDefEqProofs only [szs, ne_eq] <;> omega) | fail)) only [go_sem, Nat.reduceAdd, Nat.reduceSub, Nat.reduceMul, Nat.reduceLT, Nat.reduceMod, Nat.reduceDiv, Nat.reduceEqDiff, Nat.reduceBEq, Nat.reduceLeDiff, ↓reduceIte, reduceCtorEq, Int.reduceAdd, Int.reduceSub, Int.reduceLT, Int.reduceLE, Int.reduceBEq, Int.reduceEq, Int.reduceToNat, Option.isNone_none, undefV]
    refine GCall.of (stands_ok p4.d p4.r.at (fun _ => trivial)).kept ?_
    rintro w h5 ⟨⟨rfl, k5⟩, vf5⟩
    simp -implicitDefEqProofs (disch := (first | omega | (simp -implicitDefEqProofs only [szs, ne_eq] <;> omega) | fail)) only [go_sem, Nat.reduceAdd, Nat.reduceSub, Nat.reduceMul, Nat.reduceLT, Nat.reduceMod, Nat.reduceDiv, Nat.reduceEqDiff, Nat.reduceBEq, Nat.reduceLeDiff, ↓reduceIte, reduceCtorEq, Int.reduceAdd, Int.reduceSub, Int.reduceLT, Int.reduceLE, Int.reduceBEq, Int.reduceEq, Int.reduceToNat, Option.isNone_none, undefV]
    exact ⟨bd, L, D, S, rd, fb, pb, rfl, (p4.old vf5.n k5).mono fun _ h => .inl h, fun s => by have := few s; omega⟩
  | some f =>
    rw [hc] at hq3
    obtain ⟨rfl, hd3⟩ := hq3
    simp -implicitDefEqProofs (disch := (first | omega | (simp -implicitDefEqProofs only [szs, ne_eq] <;> omega) | fail)) only [go_sem, Nat.reduceAdd, Nat.reduceSub, Nat.reduceMul, Nat.reduceLT, Nat.reduceMod, Nat.reduceDiv, Nat.reduceEqDiff, Nat.reduceBEq, Nat.reduceLeDiff, ↓reduceIte, reduceCtorEq, Int.reduceAdd, Int.reduceSub, Int.reduceLT, Int.reduceLE, Int.reduceBEq, Int.reduceEq, Int.reduceToNat, s0', s1, y4]
    refine GCall.of ((rcrash_ok p3.r p3.sl (fun _ => trivial) hkv3).any) ?_
    rintro v h4 ⟨⟨n4, k4⟩, hq4⟩
    rw [hc] at hq4
    obtain ⟨rd', fb', pb', rfl, r1, r2, r3, hr4⟩ := hq4
    have p4 := p3.old n4 k4
    simp -implicitDefEqProofs (disch := (first | omega | (simp -implicitDefEqProofs only [szs, ne_eq] <;> omega) | fail)) only [go_sem, Nat.reduceAdd, Nat.reduceSub, Nat.reduceMul, Nat.reduceLT, Nat.reduceMod, Nat.reduceDiv, Nat.reduceEqDiff, Nat.reduceBEq, Nat.reduceLeDiff, ↓reduceIte, reduceCtorEq, Int.reduceAdd, Int.reduceSub, Int.reduceLT, Int.reduceLE, Int.reduceBEq, Int.reduceEq, Int.reduceToNat]
    refine GCall.of (num_ok 0).any ?_
    rintro w h4 ⟨rfl, rfl⟩
    simp -implicitDefEqProofs (disch := (first | omega | (simp -implicitDefEqProofs only [szs, ne_eq] <;> omega) | fail)) only [go_sem, Nat.reduceAdd, Nat.reduceSub, Nat.reduceMul, Nat.reduceLT, Nat.reduceMod, Nat.reduceDiv, Nat.reduceEqDiff, Nat.reduceBEq, Nat.reduceLeDiff, ↓reduceIte, reduceCtorEq, Int.reduceAdd, Int.reduceSub, Int.reduceLT, Int.reduceLE, Int.reduceBEq, Int.reduceEq, Int.reduceToNat, Option.isNone_some, undefV]
    refine GCall.of (stands_ok p4.d p4.r.at (fun _ => trivial)).kept ?_
    rintro w h5 ⟨⟨rfl, k5⟩, vf5⟩
    simp -implicitDefEqProofs (disch := (first | omega | (simp -implicitDefEqProofs only [szs, ne_eq] <;> omega) | fail)) only [go_sem, Nat.reduceAdd, Nat.reduceSub, Nat.reduceMul, Nat.reduceLT, Nat.reduceMod, Nat.reduceDiv, Nat.reduceEqDiff, Nat.reduceBEq, Nat.reduceLeDiff, ↓reduceIte, reduceCtorEq, Int.reduceAdd, Int.reduceSub, Int.reduceLT, Int.reduceLE, Int.reduceBEq, Int.reduceEq, Int.reduceToNat, Option.isNone_some, undefV]
    have n5 := vf5.n
    have p5 := p4.old n5 k5
    refine GCall.of sector_ok.any ?_
    rintro v h6 ⟨rfl, n6, ⟨cc, q1, q2, q3, q4⟩, k6⟩
    have p6 := p5.old (by omega) k6
    simp -implicitDefEqProofs (disch := (first | omega | (simp -implicitDefEqProofs only [szs, ne_eq] <;> omega) | fail)) only [go_sem, Nat.reduceAdd, Nat.reduceSub, Nat.reduceMul, Nat.reduceLT, Nat.reduceMod, Nat.reduceDiv, Nat.reduceEqDiff, Nat.reduceBEq, Nat.reduceLeDiff, ↓reduceIte, reduceCtorEq, Int.reduceAdd, Int.reduceSub, Int.reduceLT, Int.reduceLE, Int.reduceBEq, Int.reduceEq, Int.reduceToNat]
    refine GCall.of (((poke_ok (W := Foot bd L D) p6.d (fun _ => trivial) (fun _ h => h) (by have := few 0; omega) q1 q2 q4).any.kept).foot (fun _ h => h) (fun b hb => hW2 b (p6.dP b hb))) ?_
    rintro v h7 ⟨_, vf7⟩
    have n7 := vf7.n
    simp -implicitDefEqProofs (disch := (first | omega | (simp -implicitDefEqProofs only [szs, ne_eq] <;> omega) | fail)) only [go_sem, Nat.reduceAdd, Nat.reduceSub, Nat.reduceMul, Nat.reduceLT, Nat.reduceMod, Nat.reduceDiv, Nat.reduceEqDiff, Nat.reduceBEq, Nat.reduceLeDiff, ↓reduceIte, reduceCtorEq, Int.reduceAdd, Int.reduceSub, Int.reduceLT, Int.reduceLE, Int.reduceBEq, Int.reduceEq, Int.reduceToNat]
    have hlt := p2.d.lt
    have hlx : h2.n + 3 < h3.n := Heap.lt_of_get (hd3.d.choose_spec.1)
    have hfx : ∀ b, Foot (h2.n + 3) (crL h2.n D) (D.crashed f) b → h2.n ≤ b ∧ b < h3.n := fun b hb => by
      rcases hb with rfl | rfl | rfl | ⟨x, hx, _⟩
      · omega
      · show h2.n ≤ h2.n + 1 ∧ h2.n + 1 < h3.n; omega
      · show h2.n ≤ h2.n + 2 ∧ h2.n + 2 < h3.n; omega
      · exact absurd rfl hx
    have hd6 := ((hd3.old k4).old k5).old k6
    have hr6 := (hr4.old k5).old k6
    refine ⟨_, _, D.crashed f, Rn S h3.n h4.n, rd', fb', pb', rfl, ⟨hd6.same fun b hb hl => vf7.get b hl fun hf => ?_, hr6.same fun b hb hl => vf7.get b hl fun hf => ?_, fun b hb hs => ?_, fun b hb => ?_, fun b hb => ?_, fun b hb => ?_⟩, fun s => by simp [DS.crashed]⟩
    · have := (hfx b hb).1; have := hlt b hf; omega
    · rcases hb with hb | hb
      · exact p.sep b hf hb
      · have := hlt b hf; omega
    · have := hfx b hb
      rcases hs with hs | hs
      · have := p2.sl b hs; omega
      · omega
    · have := hfx b hb; exact .inr (by omega)
    · rcases hb with hb | hb
      · exact .inl (p.sP b hb)
      · exact .inr (by omega)
    · rcases hb with hb | hb
      · have := p2.sl b hb; omega
      · omega
end Go.Proofs.Ytgkcbpagdfdpdaa
