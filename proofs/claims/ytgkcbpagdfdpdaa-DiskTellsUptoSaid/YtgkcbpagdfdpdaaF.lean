/- A disk: Crash. -/
import Derived.Test.YtgkcbpagdfdpdaaE
set_option linter.unusedVariables false
set_option linter.unusedSimpArgs false
set_option linter.unusedSimpArgs false
set_option maxRecDepth 100000
set_option linter.unusedVariables false
set_option linter.unusedSimpArgs false
namespace Go.Proofs.Ytgkcbpagdfdpdaa
open Go Go.Vm
attribute [-go_sem] sz_67
/-- A slice of what is to be kept. -/
def KeepV (h : Heap) (R : Set') (v : V) (m : Nat) (ks kw : Nat → Int) : Prop := m ≤ 9223372036854775807 ∧ ((m = 0 ∧ (v = .slice none 0 0 true ∨ ∃ a, v = .esl a)) ∨ ∃ b o cap ex c ce, v = .slice (some (b, o)) m cap ex ∧ R b ∧ h.get b = some (.cells c ce) ∧ o + m * 2 ≤ c.size ∧ ∀ i, i < m → c.get (o + i * 2) = .int .i64 (ks i) ∧ c.get (o + i * 2 + 1) = .int .i64 (kw i))
theorem KeepV.old {h h' : Heap} {R : Set'} {v : V} {m : Nat} {ks kw : Nat → Int} (hv : KeepV h R v m ks kw) (hk : ∀ b, b < h.n → h'.get b = h.get b) : KeepV h' R v m ks kw := by
  refine ⟨hv.1, hv.2.imp id ?_⟩
  rintro ⟨b, o, cap, ex, c, ce, e, hR, hb, hs⟩
  exact ⟨b, o, cap, ex, c, ce, e, hR, by rw [hk _ (Heap.lt_of_get hb)]; exact hb, hs⟩
theorem KeepV.len {h : Heap} {R : Set'} {v : V} {m : Nat} {ks kw : Nat → Int} (hv : KeepV h R v m ks kw) (g : Heap) : lenV Try.prog 23 v g = some (m, []) := by
  rcases hv.2 with ⟨rfl, rfl | ⟨a, rfl⟩⟩ | ⟨b, o, cap, ex, c, ce, rfl, _⟩ <;> simp [lenV, Try.underlying23]
def keepOk (D : DS) (ks kw : Nat → Int) (i : Nat) : Prop := (0 ≤ ks i ∧ ks i < D.n) ∧ 0 ≤ kw i ∧ kw i ≤ (D.pe (ks i).toNat).length ∧ ∀ j, j < i → ks j ≠ ks i
instance (D : DS) (ks kw : Nat → Int) (i : Nat) : Decidable (keepOk D ks kw i) := by unfold keepOk; infer_instance
/-- What a crash leaves. -/
def crashF (D : DS) (ks kw : Nat → Int) : Nat → Option (Nat → List V)
  | 0 => some D.fl
  | i + 1 => match crashF D ks kw i with
    | none => none
    | some f => if keepOk D ks kw i then some (fun x => if (x : Int) = ks i ∧ 0 < kw i then (D.pe x).getD (kw i - 1).toNat [] else f x) else none
theorem crashF_none {D : DS} {ks kw : Nat → Int} {i : Nat} (h : crashF D ks kw i = none) : ∀ {m : Nat}, i ≤ m → crashF D ks kw m = none := by
  intro m hm'
  induction m with
  | zero => have : i = 0 := by omega
            subst this; exact h
  | succ m ih =>
    by_cases e : i = m + 1
    · subst e; exact h
    · simp only [crashF, ih (by omega)]
def DS.crashed (D : DS) (f : Nat → List V) : DS := ⟨D.n, f, fun _ => [], D.wr⟩
def crL (n : Nat) (D : DS) : DL := ⟨n + 1, n + 2, fun _ => 0, D.n, false⟩
theorem DiskAt.crashed {g : Heap} {n : Nat} {D : DS} {f : Nat → List V} (hp : 1 ≤ D.n ∧ D.n ≤ 4096) (hd : ∃ c, g.get (n + 3) = some (.cells c 54) ∧ c.size = 3 ∧ c.ro = false ∧ c.get 0 = .slice (some (n + 1, 0)) D.n D.n false ∧ c.get 1 = .map (some (n + 2)) ∧ c.get 2 = .int .i64 D.wr)
    (hf : ∃ c, g.get (n + 1) = some (.cells c 67) ∧ c.size = D.n * 128 ∧ c.ro = false ∧ ∀ s, s < D.n → c.gets (s * 128) secN = f s) (hmp : g.get (n + 2) = some (.map [] 0)) (hs : ∀ s, s < D.n → IsSec (f s)) : DiskAt g (n + 3) (crL n D) (D.crashed f) :=
  ⟨hp, hd, hf, ⟨[], 0, hmp, IMap.nil, ⟨fun x => by simp [DS.crashed, getI], fun x _ => rfl, fun x hx => absurd rfl hx, fun x y hx => absurd rfl hx⟩⟩, hs, fun s l hl => by simp [DS.crashed] at hl, fun s _ => rfl, fun s => by simp [DS.crashed]⟩
theorem DiskAt.poke {h h' : Heap} {bd : Nat} {L : DL} {D : DS} {F : Nat → List V} {s : Nat} {l : List V} {f : Blk} (hd : DiskAt h bd L (D.crashed F)) (hs : s < D.n) (hl : IsSec l) (hf : h.get L.fb = some (.cells f 67)) (hf' : h'.get L.fb = some (.cells (f.putA (s * 128) l) 67))
    (hk : ∀ b, b ≠ L.fb → Foot bd L (D.crashed F) b → h'.get b = h.get b) : DiskAt h' bd L (D.crashed fun x => if x = s then l else F x) := by
  have hN := secN_eq
  have hsl := hl.1
  obtain ⟨hp, ⟨c, d1, d2⟩, ⟨f', f1, f2, f3, f4⟩, ⟨es, ck, m1, m2, m3⟩, h1, h2, h3, h4⟩ := hd
  rw [f1] at hf
  obtain rfl : f' = f := by simpa using hf
  have hne1 : bd ≠ L.fb := fun e => by rw [e, f1] at d1; cases d1
  have hne2 : L.mb ≠ L.fb := fun e => by rw [e, f1] at m1; cases m1
  refine ⟨hp, ⟨c, by rw [hk _ hne1 (.inl rfl)]; exact d1, d2⟩, ⟨_, hf', by rw [Blk.size_putA]; exact f2, by rw [Blk.ro_putA]; exact f3, fun x hx => ?_⟩, ⟨es, ck, by rw [hk _ hne2 (.inr (.inr (.inl rfl)))]; exact m1, m2, ⟨m3.has, m3.neg, fun x hx => absurd rfl hx, fun x y hx => absurd rfl hx⟩⟩, fun x hx => ?_, h2, h3, h4⟩
  · have hx : x < D.n := hx
    have f2 : f'.size = D.n * 128 := f2
    simp only [DS.crashed]
    by_cases hxs : x = s
    · subst hxs
      rw [if_pos rfl]
      exact Blk.gets_putA_same hsl.symm (by rw [f2]; omega)
    · rw [if_neg hxs, Blk.gets_putA_ne (by rw [f2]; omega) (by omega)]
      exact f4 x hx
  · simp only [DS.crashed]
    split
    · exact hl
    · exact h1 x hx
/-- A row's own place. -/
theorem stK (h : Heap) (x y : Int) : ∃ h2, ((h.push (O.cells (Blk.of [V.int IntKind.i64 0, V.int IntKind.i64 0]) 63)).set h.n
      (O.cells (((Blk.of [V.int IntKind.i64 0, V.int IntKind.i64 0]).set 0 (V.int IntKind.i64 x)).set 1 (V.int IntKind.i64 y)) 63)) = h2 ∧ h2.n = h.n + 1 ∧
      (∃ s, h2.get h.n = some (.cells s 63) ∧ s.size = 2 ∧ s.get 0 = .int .i64 x ∧ s.get 1 = .int .i64 y) ∧ ∀ b, b < h.n → h2.get b = h.get b := by
  refine ⟨_, rfl, by simp, ⟨(((Blk.of [V.int IntKind.i64 0, V.int IntKind.i64 0]).set 0 (V.int IntKind.i64 x)).set 1 (V.int IntKind.i64 y)), by simp -implicitDefEqProofs (disch := (first | omega | (simp -implicitDefEqProofs only [szs, ne_eq] <;> omega) | fail)) only [go_sem, Nat.reduceAdd, Nat.reduceSub, Nat.reduceMul, Nat.reduceLT, Nat.reduceMod, Nat.reduceDiv, Nat.reduceEqDiff, Nat.reduceBEq, Nat.reduceLeDiff, ↓reduceIte, reduceCtorEq, Int.reduceAdd, Int.reduceSub, Int.reduceLT, Int.reduceLE, Int.reduceBEq, Int.reduceEq, Int.reduceToNat], rfl, ?_, ?_⟩, fun b hb => by simp -implicitDefEqProofs (disch := (first | omega | (simp -implicitDefEqProofs only [szs, ne_eq] <;> omega) | fail)) only [go_sem, Nat.reduceAdd, Nat.reduceSub, Nat.reduceMul, Nat.reduceLT, Nat.reduceMod, Nat.reduceDiv, Nat.reduceEqDiff, Nat.reduceBEq, Nat.reduceLeDiff, ↓reduceIte, reduceCtorEq, Int.reduceAdd, Int.reduceSub, Int.reduceLT, Int.reduceLE, Int.reduceBEq, Int.reduceEq, Int.reduceToNat]⟩ <;> simp -implicitDefEqProofs (disch := (first | omega | (simp -implicitDefEqProofs only [szs, ne_eq] <;> omega) | fail)) only [go_sem, Nat.reduceAdd, Nat.reduceSub, Nat.reduceMul, Nat.reduceLT, Nat.reduceMod, Nat.reduceDiv, Nat.reduceEqDiff, Nat.reduceBEq, Nat.reduceLeDiff, ↓reduceIte, reduceCtorEq, Int.reduceAdd, Int.reduceSub, Int.reduceLT, Int.reduceLE, Int.reduceBEq, Int.reduceEq, Int.reduceToNat]
/-- What a crash answers. -/
def CrashQ (h : Heap) (D : DS) (ks kw : Nat → Int) (m : Nat) (v : V) (h' : Heap) : Prop := (∀ b, b < h.n → h'.get b = h.get b) ∧ match crashF D ks kw m with
  | none => v = .tuple [.ptr none, .int .i64 2]
  | some f => v = .tuple [.ptr (some (h.n + 3, 0)), .int .i64 0] ∧ DiskAt h' (h.n + 3) (crL h.n D) (D.crashed f)
theorem CrashQ.bad {h h' : Heap} {D : DS} {ks kw : Nat → Int} {i m : Nat} (hk : ∀ b, b < h.n → h'.get b = h.get b) (hn : crashF D ks kw i = none) (him : i ≤ m) : CrashQ h D ks kw m (.tuple [.ptr none, .int .i64 2]) h' := by
  refine ⟨hk, ?_⟩
  rw [crashF_none hn him]
theorem crashF_sec {D : DS} {ks kw : Nat → Int} (h1 : ∀ s, s < D.n → IsSec (D.fl s)) (h2 : ∀ s, ∀ l ∈ D.pe s, IsSec l) : ∀ {i : Nat} {f : Nat → List V}, crashF D ks kw i = some f → ∀ s, s < D.n → IsSec (f s)
  | 0, f, h, s, hs => by simp [crashF] at h; subst h; exact h1 s hs
  | i + 1, f, h, s, hs => by
    simp only [crashF] at h
    split at h
    · cases h
    · rename_i f0 hf0
      split at h
      · rename_i hok
        obtain rfl : _ = f := Option.some.inj h
        simp only []
        split
        · rename_i he
          obtain ⟨_, h3, h4, _⟩ := hok
          rw [← he.1, Int.toNat_natCast] at h4
          rw [List.getD_eq_getElem?_getD, List.getElem?_eq_getElem (by omega)]
          exact h2 s _ (List.getElem_mem _)
        · exact crashF_sec h1 h2 hf0 s hs
      · cases h
set_option maxHeartbeats 2000000 in
theorem crash_ok {h : Heap} {R W : Set'} {bd : Nat} {L : DL} {D : DS} (hd : DiskAt h bd L D) (hR : ∀ b, Foot bd L D b → R b) {v : V} {m : Nat} {ks kw : Nat → Int} (hv : KeepV h R v m ks kw) :
    SF Try.prog 15 [.ptr (some (bd, 0)), v] h R W (CrashQ h D ks kw m) := by
  obtain ⟨c, h1, sz, ro, c0, c1, c2⟩ := hd.d
  obtain ⟨f0, f1, fs, fro, fg⟩ := hd.f
  have hp := hd.pos
  have hR1 := hR bd (.inl rfl)
  have hR2 := hR L.fb (.inr (.inl rfl))
  have hR3 := hR L.mb (.inr (.inr (.inl rfl)))
  have hlen := hv.len
  have hm1 := hv.1
  have hlt1 := Heap.lt_of_get h1
  have hlt2 := Heap.lt_of_get f1
  refine SF.go hm Try.func15 ir15_eq ?_
  simp -implicitDefEqProofs (disch := (first | omega | (simp -implicitDefEqProofs only [szs, ne_eq] <;> omega) | fail)) only [go_sem, Nat.reduceAdd, Nat.reduceSub, Nat.reduceMul, Nat.reduceLT, Nat.reduceMod, Nat.reduceDiv, Nat.reduceEqDiff, Nat.reduceBEq, Nat.reduceLeDiff, ↓reduceIte, reduceCtorEq, Int.reduceAdd, Int.reduceSub, Int.reduceLT, Int.reduceLE, Int.reduceBEq, Int.reduceEq, Int.reduceToNat, ir15]
  refine GCall.of (there_ok hd (.inr hR1)) ?_
  rintro w h' ⟨rfl, rfl⟩
  simp -implicitDefEqProofs (disch := (first | omega | (simp -implicitDefEqProofs only [szs, ne_eq] <;> omega) | fail)) only [go_sem, Nat.reduceAdd, Nat.reduceSub, Nat.reduceMul, Nat.reduceLT, Nat.reduceMod, Nat.reduceDiv, Nat.reduceEqDiff, Nat.reduceBEq, Nat.reduceLeDiff, ↓reduceIte, reduceCtorEq, Int.reduceAdd, Int.reduceSub, Int.reduceLT, Int.reduceLE, Int.reduceBEq, Int.reduceEq, Int.reduceToNat, undefV, h1, c0]
  refine GCallD.of (R' := fun b => b = L.fb) (W' := fun _ => False) (clone_ok (ce := 67) f1 (by omega) (by omega) (by omega) rfl) ?_
  rintro w h' ⟨rfl, rfl⟩
  simp -implicitDefEqProofs (disch := (first | omega | (simp -implicitDefEqProofs only [szs, ne_eq] <;> omega) | fail)) only [go_sem, Nat.reduceAdd, Nat.reduceSub, Nat.reduceMul, Nat.reduceLT, Nat.reduceMod, Nat.reduceDiv, Nat.reduceEqDiff, Nat.reduceBEq, Nat.reduceLeDiff, ↓reduceIte, reduceCtorEq, Int.reduceAdd, Int.reduceSub, Int.reduceLT, Int.reduceLE, Int.reduceBEq, Int.reduceEq, Int.reduceToNat, undefV, h1, c0, c2, ↓hlen]
  refine ⟨?_, ⟨fun _ => .inr hR1, fun b _ e => .inr (e ▸ hR2), fun b _ e => e.elim, fun _ => .inr hR1⟩, ?_⟩
  · simp only [List.not_mem_nil, or_false, false_or, and_false, false_and, false_implies, implies_true, not_false_eq_true, List.mem_singleton, List.mem_cons, and_true, true_and]
    and_intros <;> intros <;> omega
  have hfl := hd.fl
  have hsz : D.n * 128 ≤ f0.size := by omega
  refine GLoop.inv hm (fun k f g => f.mks = [] ∧ f.tm.n = 90 ∧ f.tm.get 0 = some (.ptr (some (bd, 0))) ∧ f.tm.get 6 = some (.ptr (some (h'.n + 3, 0))) ∧ f.tm.get 7 = some (.map (some (h'.n + 4))) ∧ f.tm.get 8 = some (.bool false) ∧ f.tm.get 27 = some v ∧ f.tm.get 28 = some (.int .i64 m) ∧ ∃ i : Nat, i + k = m ∧ f.tm.get 29 = some (.int .i64 i) ∧ h'.n + 5 ≤ g.n ∧ (∀ b, b < h'.n → g.get b = h'.get b) ∧
    ∃ F, crashF D ks kw i = some F ∧ DiskAt g (h'.n + 3) (crL h'.n D) (D.crashed F) ∧ ∃ es ck, g.get (h'.n + 4) = some (.map es ck) ∧ IMap es ck ∧ ∀ x : Int, getI es x = if ∃ j, j < i ∧ ks j = x then some (.bool true) else none) m ?_ ?_
  · refine ⟨rfl, rfl, by simp -implicitDefEqProofs (disch := (first | omega | (simp -implicitDefEqProofs only [szs, ne_eq] <;> omega) | fail)) only [go_sem, Nat.reduceAdd, Nat.reduceSub, Nat.reduceMul, Nat.reduceLT, Nat.reduceMod, Nat.reduceDiv, Nat.reduceEqDiff, Nat.reduceBEq, Nat.reduceLeDiff, ↓reduceIte, reduceCtorEq, Int.reduceAdd, Int.reduceSub, Int.reduceLT, Int.reduceLE, Int.reduceBEq, Int.reduceEq, Int.reduceToNat], by simp -implicitDefEqProofs (disch := (first | omega | (simp -implicitDefEqProofs only [szs, ne_eq] <;> omega) | fail)) only [go_sem, Nat.reduceAdd, Nat.reduceSub, Nat.reduceMul, Nat.reduceLT, Nat.reduceMod, Nat.reduceDiv, Nat.reduceEqDiff, Nat.reduceBEq, Nat.reduceLeDiff, ↓reduceIte, reduceCtorEq, Int.reduceAdd, Int.reduceSub, Int.reduceLT, Int.reduceLE, Int.reduceBEq, Int.reduceEq, Int.reduceToNat], by simp -implicitDefEqProofs (disch := (first | omega | (simp -implicitDefEqProofs only [szs, ne_eq] <;> omega) | fail)) only [go_sem, Nat.reduceAdd, Nat.reduceSub, Nat.reduceMul, Nat.reduceLT, Nat.reduceMod, Nat.reduceDiv, Nat.reduceEqDiff, Nat.reduceBEq, Nat.reduceLeDiff, ↓reduceIte, reduceCtorEq, Int.reduceAdd, Int.reduceSub, Int.reduceLT, Int.reduceLE, Int.reduceBEq, Int.reduceEq, Int.reduceToNat], by simp -implicitDefEqProofs (disch := (first | omega | (simp -implicitDefEqProofs only [szs, ne_eq] <;> omega) | fail)) only [go_sem, Nat.reduceAdd, Nat.reduceSub, Nat.reduceMul, Nat.reduceLT, Nat.reduceMod, Nat.reduceDiv, Nat.reduceEqDiff, Nat.reduceBEq, Nat.reduceLeDiff, ↓reduceIte, reduceCtorEq, Int.reduceAdd, Int.reduceSub, Int.reduceLT, Int.reduceLE, Int.reduceBEq, Int.reduceEq, Int.reduceToNat], by simp -implicitDefEqProofs (disch := (first | omega | (simp -implicitDefEqProofs only [szs, ne_eq] <;> omega) | fail)) only [go_sem, Nat.reduceAdd, Nat.reduceSub, Nat.reduceMul, Nat.reduceLT, Nat.reduceMod, Nat.reduceDiv, Nat.reduceEqDiff, Nat.reduceBEq, Nat.reduceLeDiff, ↓reduceIte, reduceCtorEq, Int.reduceAdd, Int.reduceSub, Int.reduceLT, Int.reduceLE, Int.reduceBEq, Int.reduceEq, Int.reduceToNat], by simp -implicitDefEqProofs (disch := (first | omega | (simp -implicitDefEqProofs only [szs, ne_eq] <;> omega) | fail)) only [go_sem, Nat.reduceAdd, Nat.reduceSub, Nat.reduceMul, Nat.reduceLT, Nat.reduceMod, Nat.reduceDiv, Nat.reduceEqDiff, Nat.reduceBEq, Nat.reduceLeDiff, ↓reduceIte, reduceCtorEq, Int.reduceAdd, Int.reduceSub, Int.reduceLT, Int.reduceLE, Int.reduceBEq, Int.reduceEq, Int.reduceToNat], 0, by omega, by simp -implicitDefEqProofs (disch := (first | omega | (simp -implicitDefEqProofs only [szs, ne_eq] <;> omega) | fail)) only [go_sem, Nat.reduceAdd, Nat.reduceSub, Nat.reduceMul, Nat.reduceLT, Nat.reduceMod, Nat.reduceDiv, Nat.reduceEqDiff, Nat.reduceBEq, Nat.reduceLeDiff, ↓reduceIte, reduceCtorEq, Int.reduceAdd, Int.reduceSub, Int.reduceLT, Int.reduceLE, Int.reduceBEq, Int.reduceEq, Int.reduceToNat]; rfl, by simp, fun b hb => by simp -implicitDefEqProofs (disch := (first | omega | (simp -implicitDefEqProofs only [szs, ne_eq] <;> omega) | fail)) only [go_sem, Nat.reduceAdd, Nat.reduceSub, Nat.reduceMul, Nat.reduceLT, Nat.reduceMod, Nat.reduceDiv, Nat.reduceEqDiff, Nat.reduceBEq, Nat.reduceLeDiff, ↓reduceIte, reduceCtorEq, Int.reduceAdd, Int.reduceSub, Int.reduceLT, Int.reduceLE, Int.reduceBEq, Int.reduceEq, Int.reduceToNat], D.fl, rfl, DiskAt.crashed hp ⟨Blk.of [V.slice (some (h'.n + 1, 0)) D.n D.n false, V.map (some (h'.n + 2)), V.int IntKind.i64 D.wr], by simp -implicitDefEqProofs (disch := (first | omega | (simp -implicitDefEqProofs only [szs, ne_eq] <;> omega) | fail)) only [go_sem, Nat.reduceAdd, Nat.reduceSub, Nat.reduceMul, Nat.reduceLT, Nat.reduceMod, Nat.reduceDiv, Nat.reduceEqDiff, Nat.reduceBEq, Nat.reduceLeDiff, ↓reduceIte, reduceCtorEq, Int.reduceAdd, Int.reduceSub, Int.reduceLT, Int.reduceLE, Int.reduceBEq, Int.reduceEq, Int.reduceToNat], rfl, rfl, rfl, rfl, rfl⟩ ⟨Blk.of (f0.gets 0 (D.n * 128)), by simp -implicitDefEqProofs (disch := (first | omega | (simp -implicitDefEqProofs only [szs, ne_eq] <;> omega) | fail)) only [go_sem, Nat.reduceAdd, Nat.reduceSub, Nat.reduceMul, Nat.reduceLT, Nat.reduceMod, Nat.reduceDiv, Nat.reduceEqDiff, Nat.reduceBEq, Nat.reduceLeDiff, ↓reduceIte, reduceCtorEq, Int.reduceAdd, Int.reduceSub, Int.reduceLT, Int.reduceLE, Int.reduceBEq, Int.reduceEq, Int.reduceToNat], by rw [w_of_size, Blk.length_gets], rfl, fun s hs => ?_⟩ (by simp -implicitDefEqProofs (disch := (first | omega | (simp -implicitDefEqProofs only [szs, ne_eq] <;> omega) | fail)) only [go_sem, Nat.reduceAdd, Nat.reduceSub, Nat.reduceMul, Nat.reduceLT, Nat.reduceMod, Nat.reduceDiv, Nat.reduceEqDiff, Nat.reduceBEq, Nat.reduceLeDiff, ↓reduceIte, reduceCtorEq, Int.reduceAdd, Int.reduceSub, Int.reduceLT, Int.reduceLE, Int.reduceBEq, Int.reduceEq, Int.reduceToNat]) hfl, [], 0, by simp -implicitDefEqProofs (disch := (first | omega | (simp -implicitDefEqProofs only [szs, ne_eq] <;> omega) | fail)) only [go_sem, Nat.reduceAdd, Nat.reduceSub, Nat.reduceMul, Nat.reduceLT, Nat.reduceMod, Nat.reduceDiv, Nat.reduceEqDiff, Nat.reduceBEq, Nat.reduceLeDiff, ↓reduceIte, reduceCtorEq, Int.reduceAdd, Int.reduceSub, Int.reduceLT, Int.reduceLE, Int.reduceBEq, Int.reduceEq, Int.reduceToNat], IMap.nil, fun x => by simp [getI]⟩
    have hN := secN_eq
    have hle := hfl s hs
    rw [← fg s hs]
    refine Blk.gets_ext (fun j hj => ?_) (by rw [Blk.length_gets])
    rw [Blk.length_gets] at hj
    rw [Blk.get_of _ _ (by rw [Blk.length_gets]; omega), List.getD_eq_getElem?_getD, Blk.gets_get _ _ _ _ (by omega), List.getD_eq_getElem?_getD, Blk.gets_get _ _ _ _ hj, Nat.zero_add]
  rintro k ⟨⟨n', tr⟩, mks⟩ g ⟨hmk, hn', t0, t6, t7, t8, t27, t28, i, hik, t29, hgn, hgo, F, hF, hdc, es, ck, g4, hi4, hg4⟩
  simp only [Tm.get_mk] at hmk hn' t0 t6 t7 t8 t27 t28 t29
  subst hmk hn'
  by_cases him : i < m
  · rcases hv.2 with ⟨h0, _⟩ | ⟨b, o, cap, ex, cv, ce, rfl, hRb, hb, hsv, hcv⟩
    · omega
    obtain ⟨k0, k1⟩ := hcv i him
    have hltb := Heap.lt_of_get hb
    have hgb : g.get b = some (.cells cv ce) := by rw [hgo b hltb]; exact hb
    obtain ⟨h2, e2, hn2, ⟨s2, q1, q2, q3, q4⟩, hold⟩ := stK g (ks i) (kw i)
    have hd2 : DiskAt h2 bd L D := hd.old fun b hb => by rw [hold b (by omega)]; exact hgo b hb
    have hdc2 := hdc.old hold
    have hb2 : h2.get (h'.n + 4) = some (.map es ck) := by rw [hold _ (by omega)]; exact g4
    have hold2 : ∀ b, b < h'.n → h2.get b = h'.get b := fun b hb => by rw [hold b (by omega)]; exact hgo b hb
    have hgl : g.n < h2.n := by omega
    have hb5 : h'.n + 4 < h2.n := by omega
    have hbad : ¬ keepOk D ks kw i → crashF D ks kw (i + 1) = none := fun hn => by simp only [crashF, hF, if_neg hn]
    obtain ⟨cd, u1, u2, u3, u4, u5, u6⟩ := hd2.d
    simp -implicitDefEqProofs (disch := (first | omega | (simp -implicitDefEqProofs only [szs, ne_eq] <;> omega) | fail)) only [go_sem, Nat.reduceAdd, Nat.reduceSub, Nat.reduceMul, Nat.reduceLT, Nat.reduceMod, Nat.reduceDiv, Nat.reduceEqDiff, Nat.reduceBEq, Nat.reduceLeDiff, ↓reduceIte, reduceCtorEq, Int.reduceAdd, Int.reduceSub, Int.reduceLT, Int.reduceLE, Int.reduceBEq, Int.reduceEq, Int.reduceToNat, ir15_l0, t0, t6, t7, t8, t27, t28, t29, hgb, k0, k1, hRb, e2, q1, q2, q3, q4]
    refine ⟨.inl (by omega), ?_⟩
    refine GCallD.of (R' := fun b => b = bd) (W' := fun _ => False) (ask_ok (R := fun b => b = bd) hd2 rfl (ks i)) ?_
    rintro w h3 ⟨rfl, rfl⟩
    clear e2
    by_cases hks : 0 ≤ ks i ∧ ks i < D.n
    · have ha : askV D (ks i) = 0 := if_pos hks
      rw [ha]
      obtain ⟨s, hs⟩ := Int.eq_ofNat_of_zero_le hks.1
      rw [hs] at hks q3 k0 ⊢
      have hlk := hd2.look s
      have hkz : ∀ X Y : Prop, (ks i).toNat = s := fun _ _ => by omega
      have hfoot : ∀ b, b < h3.n → b = bd → h'.n ≤ b ∨ R b := fun b _ e => .inr (e ▸ hR1)
      have hbd : bd < h3.n → h'.n ≤ bd ∨ R bd := fun _ => .inr hR1
      have hgn3 : g.n < h3.n → h'.n ≤ g.n ∨ R g.n := fun _ => .inl (by omega)
      have hmb3 : L.mb < h3.n → h'.n ≤ L.mb ∨ R L.mb := fun _ => .inr hR3
      have hnb3 : h'.n + 4 < h3.n → h'.n ≤ h'.n + 4 ∨ R (h'.n + 4) := fun _ => .inl (by omega)
      by_cases hw0 : kw i < 0
      · simp -implicitDefEqProofs (disch := (first | omega | (simp -implicitDefEqProofs only [szs, ne_eq] <;> omega) | fail)) only [go_sem, Nat.reduceAdd, Nat.reduceSub, Nat.reduceMul, Nat.reduceLT, Nat.reduceMod, Nat.reduceDiv, Nat.reduceEqDiff, Nat.reduceBEq, Nat.reduceLeDiff, ↓reduceIte, reduceCtorEq, Int.reduceAdd, Int.reduceSub, Int.reduceLT, Int.reduceLE, Int.reduceBEq, Int.reduceEq, Int.reduceToNat, t0, t6, t7, t8, t27, t28, t29, q1, q2, q3, q4, undefV, u1, u5]
        refine ⟨?_, CrashQ.bad hold2 (hbad fun h => by have := h.2.1; omega) (by omega)⟩
        simp only [false_implies, implies_true, and_true, true_and]
        exact ⟨hgn3, hfoot, hgn3⟩
      · have hlk' : ∃ v, lookV Try.prog 52 h3 (.map (some L.mb)) (.int .i64 s) false = some (v, [L.mb]) ∧ ∀ g, lenV Try.prog 51 v g = some ((D.pe s).length, []) := by
          rw [hlk]
          by_cases he : D.pe s = []
          · exact ⟨_, rfl, fun g => by simp [he, lenV, Try.underlying51]⟩
          · exact ⟨_, rfl, fun g => by simp [he, lenV, Try.underlying51]⟩
        obtain ⟨lv, hlv, hll⟩ := hlk'
        by_cases hw1 : kw i > (D.pe s).length
        · simp -implicitDefEqProofs (disch := (first | omega | (simp -implicitDefEqProofs only [szs, ne_eq] <;> omega) | fail)) only [go_sem, Nat.reduceAdd, Nat.reduceSub, Nat.reduceMul, Nat.reduceLT, Nat.reduceMod, Nat.reduceDiv, Nat.reduceEqDiff, Nat.reduceBEq, Nat.reduceLeDiff, ↓reduceIte, reduceCtorEq, Int.reduceAdd, Int.reduceSub, Int.reduceLT, Int.reduceLE, Int.reduceBEq, Int.reduceEq, Int.reduceToNat, t0, t6, t7, t8, t27, t28, t29, q1, q2, q3, q4, undefV, u1, u5, hlv, ↓hll]
          refine ⟨?_, CrashQ.bad hold2 (hbad fun h => by have := h.2.2.1; rw [hs, Int.toNat_natCast] at this; omega) (by omega)⟩
          simp only [false_implies, implies_true, and_true, true_and, List.mem_singleton, List.not_mem_nil]
          exact ⟨hgn3, hfoot, hgn3, hgn3, hbd, hgn3, hmb3⟩
        · have hln := look_int (P := Try.prog) (t := 70) Try.underlying70 Try.underlying3 zv_4 hb2 hi4 (s : Int)
          rw [hg4] at hln
          by_cases hnm : ∃ j, j < i ∧ ks j = s
          · rw [if_pos hnm, Option.getD_some] at hln
            simp -implicitDefEqProofs (disch := (first | omega | (simp -implicitDefEqProofs only [szs, ne_eq] <;> omega) | fail)) only [go_sem, Nat.reduceAdd, Nat.reduceSub, Nat.reduceMul, Nat.reduceLT, Nat.reduceMod, Nat.reduceDiv, Nat.reduceEqDiff, Nat.reduceBEq, Nat.reduceLeDiff, ↓reduceIte, reduceCtorEq, Int.reduceAdd, Int.reduceSub, Int.reduceLT, Int.reduceLE, Int.reduceBEq, Int.reduceEq, Int.reduceToNat, t0, t6, t7, t8, t27, t28, t29, q1, q2, q3, q4, undefV, u1, u5, hlv, ↓hll, hln]
            refine ⟨?_, CrashQ.bad hold2 (hbad fun h => by obtain ⟨j, hj, e⟩ := hnm; exact h.2.2.2 j hj (e.trans hs.symm)) (by omega)⟩
            simp only [false_implies, implies_true, and_true, true_and, List.mem_singleton, List.not_mem_nil]
            exact ⟨hgn3, hfoot, hgn3, hgn3, hbd, hgn3, hmb3, hgn3⟩
          · rw [if_neg hnm, Option.getD_none] at hln
            obtain ⟨es', ck', hu, x1, x2, x3⟩ := upd_int (P := Try.prog) (t := 70) Try.underlying70 Try.underlying3 hb2 hi4 (s : Int) (.bool true)
            have hok : keepOk D ks kw i := ⟨by rw [hs]; exact hks, by omega, by rw [hs, Int.toNat_natCast]; omega, fun j hj e => hnm ⟨j, hj, e.trans hs⟩⟩
            have hF' : crashF D ks kw (i + 1) = some (fun x : Nat => if (x : Int) = ks i ∧ 0 < kw i then (D.pe x).getD (kw i - 1).toNat [] else F x) := by simp only [crashF, hF, if_pos hok]
            have hnamed : ∀ x : Int, getI es' x = if ∃ j, j < i + 1 ∧ ks j = x then some (.bool true) else none := fun x => by
              rw [x2, hg4]
              by_cases hx : x = s
              · rw [if_pos hx, if_pos ⟨i, by omega, hs.trans hx.symm⟩]
              · rw [if_neg hx]
                by_cases hy : ∃ j, j < i ∧ ks j = x
                · rw [if_pos hy, if_pos (by obtain ⟨j, h1, h2⟩ := hy; exact ⟨j, by omega, h2⟩)]
                · rw [if_neg hy, if_neg (by
                    rintro ⟨j, h1, h2⟩
                    by_cases e : j = i
                    · subst e; exact hx (h2.symm.trans hs)
                    · exact hy ⟨j, by omega, h2⟩)]
            obtain ⟨h4, e4⟩ : ∃ h4, h4 = h3.set (h'.n + 4) (.map es' ck') := ⟨_, rfl⟩
            have k4 : ∀ b, b ≠ h'.n + 4 → h4.get b = h3.get b := fun b hb => by rw [e4, w_set_ne (by omega) hb]
            have n4 : h4.n = h3.n := by rw [e4]; rfl
            have m4 : h4.get (h'.n + 4) = some (.map es' ck') := by rw [e4, w_set_eq (by omega) rfl]
            have hd4 : DiskAt h4 bd L D := hd.old fun b hb => by rw [k4 b (by omega)]; exact hold2 b hb
            have hdc4 : DiskAt h4 (h'.n + 3) (crL h'.n D) (D.crashed F) := hdc2.same fun b hb _ => k4 b (by
              rcases hb with rfl | rfl | rfl | ⟨x, hx, _⟩
              · omega
              · simp only [crL]; omega
              · simp only [crL]; omega
              · exact absurd rfl hx)
            have q14 : h4.get g.n = some (.cells s2 63) := by rw [k4 _ (by omega)]; exact q1
            rw [← e4] at hu
            simp -implicitDefEqProofs (disch := (first | omega | (simp -implicitDefEqProofs only [szs, ne_eq] <;> omega) | fail)) only [go_sem, Nat.reduceAdd, Nat.reduceSub, Nat.reduceMul, Nat.reduceLT, Nat.reduceMod, Nat.reduceDiv, Nat.reduceEqDiff, Nat.reduceBEq, Nat.reduceLeDiff, ↓reduceIte, reduceCtorEq, Int.reduceAdd, Int.reduceSub, Int.reduceLT, Int.reduceLE, Int.reduceBEq, Int.reduceEq, Int.reduceToNat, t0, t6, t7, t8, t27, t28, t29, q1, q2, q3, q4, undefV, u1, u5, hlv, ↓hll, hln, hu, q14]
            refine ⟨?_, .inl (by omega), .inl (by omega), ?_⟩
            · simp only [false_implies, implies_true, and_true, true_and, List.mem_singleton, List.not_mem_nil]
              exact ⟨hgn3, hfoot, hgn3, hgn3, hbd, hgn3, hmb3, hgn3⟩
            by_cases hz : kw i = 0
            · rw [hz] at q4 ⊢
              simp -implicitDefEqProofs (disch := (first | omega | (simp -implicitDefEqProofs only [szs, ne_eq] <;> omega) | fail)) only [go_sem, Nat.reduceAdd, Nat.reduceSub, Nat.reduceMul, Nat.reduceLT, Nat.reduceMod, Nat.reduceDiv, Nat.reduceEqDiff, Nat.reduceBEq, Nat.reduceLeDiff, ↓reduceIte, reduceCtorEq, Int.reduceAdd, Int.reduceSub, Int.reduceLT, Int.reduceLE, Int.reduceBEq, Int.reduceEq, Int.reduceToNat, t0, t6, t7, t8, t27, t28, t29]
              refine ⟨k - 1, by omega, i + 1, by omega, by simp, by omega, fun b hb => by rw [k4 b (by omega)]; exact hold2 b hb, _, hF', ?_, es', ck', m4, x1, hnamed⟩
              rw [show (fun x : Nat => if (x : Int) = ks i ∧ 0 < kw i then (D.pe x).getD (kw i - 1).toNat [] else F x) = F from funext fun x => if_neg (by omega)]
              exact hdc4
            · obtain ⟨w, hw⟩ : ∃ w : Nat, kw i = (w : Int) + 1 := ⟨(kw i - 1).toNat, by omega⟩
              rw [hw] at q4 ⊢
              have hwl : w < (D.pe s).length := by omega
              have hne : D.pe s ≠ [] := List.length_pos_iff.1 (by omega)
              have hlk4 := hd4.look s
              rw [if_neg hne] at hlk4
              obtain ⟨es4, ck4, y1, y2, y3⟩ := hd4.m
              obtain ⟨z1, z2⟩ := y3.blk s hne
              obtain ⟨cc, v1, v2, v3, v4, v5, v6⟩ := hd4.d
              obtain ⟨cr, r1, r2, r3, r4, r5, r6⟩ := hdc4.d
              obtain ⟨fr, a1, a2, a3, a4⟩ := hdc4.f
              have a1 : h4.get (h'.n + 1) = some (.cells fr 67) := a1
              have a2 : fr.size = D.n * 128 := a2
              have r4 : cr.get 0 = .slice (some (h'.n + 1, 0)) D.n D.n false := r4
              have hfl4 := flat_len (hd4.pe s)
              have few4 := hd4.few s
              have hln4 : (D.pe s)[w]? = some ((D.pe s).getD w []) := by rw [List.getD_eq_getElem?_getD, List.getElem?_eq_getElem hwl]; rfl
              have hgs4 := flat_gets (hd4.pe s) hln4
              have hsec4 := hd4.pe s _ (List.mem_of_getElem? hln4)
              have hone4 := hsec4.one
              have hsl4 := hsec4.1
              have hN := secN_eq
              have hwi : (w : Int) + 1 - 1 = w := by omega
              have hR4 := hR (L.pb s) (.inr (.inr (.inr ⟨s, hne, rfl⟩)))
              simp -implicitDefEqProofs (disch := (first | omega | (simp -implicitDefEqProofs only [szs, ne_eq] <;> omega) | fail)) only [go_sem, Nat.reduceAdd, Nat.reduceSub, Nat.reduceMul, Nat.reduceLT, Nat.reduceMod, Nat.reduceDiv, Nat.reduceEqDiff, Nat.reduceBEq, Nat.reduceLeDiff, ↓reduceIte, reduceCtorEq, Int.reduceAdd, Int.reduceSub, Int.reduceLT, Int.reduceLE, Int.reduceBEq, Int.reduceEq, Int.reduceToNat, t0, t6, t7, t8, t27, t28, t29, r1, r4, v1, v5, hlk4, hwi, z1, hfl4, hgs4, ↓hone4, hsl4, a1, a2, a3, sz67, q14, q2, q3, q4]
              rw [← n4] at hgn3 hbd hmb3
              refine ⟨⟨hgn3, hbd, hgn3, hmb3, hgn3, fun _ => .inr hR4⟩, k - 1, by omega, i + 1, by omega, by simp, by omega, fun b hb => ?_, _, hF', ?_, es', ck', m4, x1, hnamed⟩
              · rw [w_set_ne (by omega) (by omega), k4 b (by omega)]; exact hold2 b hb
              · have hEq : (fun x : Nat => if (x : Int) = ks i ∧ 0 < kw i then (D.pe x).getD (kw i - 1).toNat [] else F x) = (fun x : Nat => if x = s then (D.pe s).getD w [] else F x) := funext fun x => by
                  by_cases hx : x = s
                  · subst hx
                    rw [if_pos ⟨hs.symm, by omega⟩, if_pos rfl, show (kw i - 1).toNat = w by omega]
                  · rw [if_neg (by omega), if_neg hx]
                rw [hEq]
                exact hdc4.poke (by omega) hsec4 a1 (by rw [show (crL h'.n D).fb = h'.n + 1 from rfl, w_set_eq (by omega) rfl]) fun b hb _ => by rw [w_set_ne (by omega) (by simpa [crL] using hb)]
    · have ha : askV D (ks i) = 2 := if_neg hks
      rw [ha]
      simp -implicitDefEqProofs (disch := (first | omega | (simp -implicitDefEqProofs only [szs, ne_eq] <;> omega) | fail)) only [go_sem, Nat.reduceAdd, Nat.reduceSub, Nat.reduceMul, Nat.reduceLT, Nat.reduceMod, Nat.reduceDiv, Nat.reduceEqDiff, Nat.reduceBEq, Nat.reduceLeDiff, ↓reduceIte, reduceCtorEq, Int.reduceAdd, Int.reduceSub, Int.reduceLT, Int.reduceLE, Int.reduceBEq, Int.reduceEq, Int.reduceToNat, t0, t6, t7, t8, t27, t28, t29, q1, q2, q3, q4, undefV]
      refine ⟨?_, CrashQ.bad hold2 (hbad fun h => hks h.1) (by omega)⟩
      simp only [false_implies, implies_true, and_true, true_and]
      exact ⟨fun _ => .inl (by omega), fun b _ e => .inr (e ▸ hR1)⟩
  · have : i = m := by omega
    subst this
    simp -implicitDefEqProofs (disch := (first | omega | (simp -implicitDefEqProofs only [szs, ne_eq] <;> omega) | fail)) only [go_sem, Nat.reduceAdd, Nat.reduceSub, Nat.reduceMul, Nat.reduceLT, Nat.reduceMod, Nat.reduceDiv, Nat.reduceEqDiff, Nat.reduceBEq, Nat.reduceLeDiff, ↓reduceIte, reduceCtorEq, Int.reduceAdd, Int.reduceSub, Int.reduceLT, Int.reduceLE, Int.reduceBEq, Int.reduceEq, Int.reduceToNat, ir15_l0, t0, t6, t7, t8, t27, t28, t29]
    exact ⟨hgo, by rw [hF]; exact ⟨rfl, hdc⟩⟩
end Go.Proofs.Ytgkcbpagdfdpdaa
