/- DiskSteps: the walk. -/
import Derived.Test.YtgkcbpagdfdpdaaDo3
set_option linter.unusedVariables false
set_option linter.unusedSimpArgs false
set_option linter.unusedSimpArgs false
set_option maxRecDepth 100000
set_option linter.unusedVariables false
set_option linter.unusedSimpArgs false
namespace Go.Proofs.Ytgkcbpagdfdpdaa
open Go Go.Vm
attribute [-go_sem] sz_67
theorem do_ok {K : Nat} {h : Heap} {P W S : Set'} {bd rd fb pb : Nat} {L : DL} {D : DS} (p : Pair P h bd L D S rd fb pb) (few : ∀ s, (D.pe s).length ≤ K) (hK : K < 900000) (hW : ∀ b, P b → W b) {kd a m : Int} (ha : -9223372036854775808 ≤ a ∧ a ≤ 9223372036854775807) {d kv : V} {l : List V} (hdv : BytesV h (fun b => ¬ P b ∧ b < h.n) d l) (hl : l.length ≤ 100000000) {mk : Nat} {ks kw : Nat → Int} (hkv : KeepV h (fun _ => True) kv mk ks kw) :
    SF ⟨Try.prog, true⟩ 25 [.ptr (some (bd, 0)), .ptr (some (rd, 0)), .agg [.int .i64 kd, .int .i64 a, .int .i64 m, d, kv]] h (fun _ => True) W (DoQ P h.n K) := by
  have hd1 := hdv.one
  have hk1 := hkv.one
  by_cases h1 : kd = 1
  · subst h1; exact do_write p few hK hW d kv hdv hl hk1
  by_cases h2 : kd = 2
  · subst h2; exact do_flush p few hW ha d kv hd1 hk1
  by_cases h3 : kd = 3
  · subst h3; exact do_crash p few (by omega) hW d kv hd1 hk1 hkv
  by_cases h4 : kd = 4
  · subst h4; exact do_copy p few (by omega) hW d kv hd1 hk1
  by_cases h5 : kd = 5
  · subst h5; exact do_of p hW d kv hd1 hk1
  · exact do_other p few ⟨h1, h2, h3, h4, h5⟩ d kv hd1 hk1
/-- A slice of steps, none of great length. -/
structure StepsU (h : Heap) (v : V) (m : Nat) : Prop where
  len : m ≤ 9223372036854775807
  at' : (m = 0 ∧ (v = .slice none 0 0 true ∨ ∃ a, v = .esl a)) ∨ ∃ b o cap c ce, v = .slice (some (b, o)) m cap true ∧ h.get b = some (.cells c ce) ∧ o + m * 5 ≤ c.size ∧ ∀ i, i < m → ∃ kd n1 n2 d l kv mk ks kw, c.get (o + i * 5) = .int .i64 kd ∧ c.get (o + i * 5 + 1) = .int .i64 n1 ∧ c.get (o + i * 5 + 2) = .int .i64 n2 ∧ c.get (o + i * 5 + 3) = d ∧ c.get (o + i * 5 + 4) = kv ∧ (BytesV h (fun b => b < h.n) d l ∧ l.length ≤ 100000000) ∧ KeepV h (fun b => b < h.n) kv mk ks kw ∧
    (-9223372036854775808 ≤ n1 ∧ n1 ≤ 9223372036854775807) ∧ (-9223372036854775808 ≤ n2 ∧ n2 ≤ 9223372036854775807)
theorem BytesV.mono {h : Heap} {R R' : Set'} {v : V} {l : List V} (hv : BytesV h R v l) (hk : ∀ b, R b → R' b) : BytesV h R' v l :=
  ⟨hv.1, hv.2.1, hv.2.2.imp id fun ⟨b, o, cap, ex, c, ce, e, hR, r⟩ => ⟨b, o, cap, ex, c, ce, e, hk b hR, r⟩⟩
theorem KeepV.mono {h : Heap} {R R' : Set'} {v : V} {m : Nat} {ks kw : Nat → Int} (hv : KeepV h R v m ks kw) (hk : ∀ b, R b → R' b) : KeepV h R' v m ks kw :=
  ⟨hv.1, hv.2.imp id fun ⟨b, o, cap, ex, c, ce, e, hR, r⟩ => ⟨b, o, cap, ex, c, ce, e, hk b hR, r⟩⟩
theorem StepsU.v {h : Heap} {v : V} {m : Nat} (hv : StepsU h v m) : StepsV h v m := by
  refine ⟨hv.len, hv.at'.imp id ?_⟩
  rintro ⟨b, o, cap, c, ce, e, hb, hs, hc⟩
  refine ⟨b, o, cap, c, ce, e, hb, hs, fun i hi => ?_⟩
  obtain ⟨kd, n1, n2, d, l, kv, mk, ks, kw, e0, e1, e2, e3, e4, e5, e6, e7, e8⟩ := hc i hi
  exact ⟨kd, n1, n2, d, l, kv, mk, ks, kw, e0, e1, e2, e3, e4, e5.1.mono fun _ _ => trivial, e6.mono fun _ _ => trivial, e7, e8⟩
set_option maxHeartbeats 4000000 in
theorem steps_law {H : Heap} {n leave : Int} {v : V} {m : Nat} (hv : StepsU H v m) :
    SF ⟨Try.prog, true⟩ 6 [.int .i64 n, v, .int .i64 leave] H (fun _ => True) (WH H) fun r _ => r = .bool true := by
  have hlen := hv.v.lenV
  have hml := hv.len
  refine SF.go hm Try.func6 ir6_eq ?_
  simp -implicitDefEqProofs (disch := (first | omega | (simp -implicitDefEqProofs only [szs, ne_eq] <;> omega) | fail)) only [go_sem, Nat.reduceAdd, Nat.reduceSub, Nat.reduceMul, Nat.reduceLT, Nat.reduceMod, Nat.reduceDiv, Nat.reduceEqDiff, Nat.reduceBEq, Nat.reduceLeDiff, ↓reduceIte, reduceCtorEq, Int.reduceAdd, Int.reduceSub, Int.reduceLT, Int.reduceLE, Int.reduceBEq, Int.reduceEq, Int.reduceToNat, ir6]
  by_cases hn : 1 ≤ n ∧ n ≤ 4096
  · obtain ⟨N, rfl⟩ : ∃ N : Nat, n = N := ⟨n.toNat, by omega⟩
    refine GCall.of (((new_ok (R := fun _ => True) (W := fun _ => False) hn).any.kept).foot (fun _ h => h) (fun _ h => h.elim)) ?_
    rintro v1 g1 ⟨⟨L, rfl, hfb, hmb, hd⟩, vf1⟩
    rw [show (N : Int).toNat = N by omega] at hd
    have n1 := vf1.n
    have hbd : H.n + 2 < g1.n := Heap.lt_of_get (hd.d.choose_spec.1)
    simp -implicitDefEqProofs (disch := (first | omega | (simp -implicitDefEqProofs only [szs, ne_eq] <;> omega) | fail)) only [go_sem, Nat.reduceAdd, Nat.reduceSub, Nat.reduceMul, Nat.reduceLT, Nat.reduceMod, Nat.reduceDiv, Nat.reduceEqDiff, Nat.reduceBEq, Nat.reduceLeDiff, ↓reduceIte, reduceCtorEq, Int.reduceAdd, Int.reduceSub, Int.reduceLT, Int.reduceLE, Int.reduceBEq, Int.reduceEq, Int.reduceToNat]
    refine GCall.of (rnew_ok (n := N) (by omega) (fun _ => trivial)).any.kept ?_
    rintro v2 g2 ⟨⟨rfl, ⟨sb, hf⟩, k2⟩, vf2⟩
    have n2 := vf2.n
    obtain ⟨fb, pb, hr⟩ := hf.refx (by omega) fun s _ => ze_sec
    have hflt := hd.lt
    have hfx : ∀ b, Foot (H.n + 2) L (DS.new N) b → H.n ≤ b ∧ b < g1.n := fun b hb => ⟨by
      rcases hb with rfl | rfl | rfl | ⟨x, hx, _⟩
      · omega
      · exact hfb
      · exact hmb
      · exact absurd rfl hx, hflt b hb⟩
    have p2 : Pair (fun b => H.n ≤ b) g2 (H.n + 2) L (DS.new N) (fun b => g1.n ≤ b ∧ b < g2.n) (g1.n + 1) fb pb :=
      ⟨hd.old k2, hr, fun b hb hs => by have := (hfx b hb).2; omega, fun b hb => (hfx b hb).1, fun b hb => by omega, fun b hb => hb.2⟩
    have hold2 : ∀ b, b < H.n → g2.get b = H.get b := fun b hb => by rw [k2 b (by omega), vf1.get b hb id]
    have kn : ∀ (g : Heap) (f : Fr) , True := fun _ _ => trivial
    by_cases h64 : 64 < N
    · simp -implicitDefEqProofs (disch := (first | omega | (simp -implicitDefEqProofs only [szs, ne_eq] <;> omega) | fail)) only [go_sem, Nat.reduceAdd, Nat.reduceSub, Nat.reduceMul, Nat.reduceLT, Nat.reduceMod, Nat.reduceDiv, Nat.reduceEqDiff, Nat.reduceBEq, Nat.reduceLeDiff, ↓reduceIte, reduceCtorEq, Int.reduceAdd, Int.reduceSub, Int.reduceLT, Int.reduceLE, Int.reduceBEq, Int.reduceEq, Int.reduceToNat, Option.isNone_some, undefV]
      refine GCall.of (knownB_ok _ _ _).any ?_
      rintro w g2 ⟨rfl, rfl⟩
      simp -implicitDefEqProofs (disch := (first | omega | (simp -implicitDefEqProofs only [szs, ne_eq] <;> omega) | fail)) only [go_sem, Nat.reduceAdd, Nat.reduceSub, Nat.reduceMul, Nat.reduceLT, Nat.reduceMod, Nat.reduceDiv, Nat.reduceEqDiff, Nat.reduceBEq, Nat.reduceLeDiff, ↓reduceIte, reduceCtorEq, Int.reduceAdd, Int.reduceSub, Int.reduceLT, Int.reduceLE, Int.reduceBEq, Int.reduceEq, Int.reduceToNat]
    simp -implicitDefEqProofs (disch := (first | omega | (simp -implicitDefEqProofs only [szs, ne_eq] <;> omega) | fail)) only [go_sem, Nat.reduceAdd, Nat.reduceSub, Nat.reduceMul, Nat.reduceLT, Nat.reduceMod, Nat.reduceDiv, Nat.reduceEqDiff, Nat.reduceBEq, Nat.reduceLeDiff, ↓reduceIte, reduceCtorEq, Int.reduceAdd, Int.reduceSub, Int.reduceLT, Int.reduceLE, Int.reduceBEq, Int.reduceEq, Int.reduceToNat, Option.isNone_some, undefV]
    refine GCall.of (much_ok (hv.v.old hold2) (fun _ => trivial)).any ?_
    rintro w g2 ⟨⟨mb, rfl⟩, rfl⟩
    cases mb with
    | true =>
      simp -implicitDefEqProofs (disch := (first | omega | (simp -implicitDefEqProofs only [szs, ne_eq] <;> omega) | fail)) only [go_sem, Nat.reduceAdd, Nat.reduceSub, Nat.reduceMul, Nat.reduceLT, Nat.reduceMod, Nat.reduceDiv, Nat.reduceEqDiff, Nat.reduceBEq, Nat.reduceLeDiff, ↓reduceIte, reduceCtorEq, Int.reduceAdd, Int.reduceSub, Int.reduceLT, Int.reduceLE, Int.reduceBEq, Int.reduceEq, Int.reduceToNat, undefV]
      refine GCall.of (knownB_ok _ _ _).any ?_
      rintro w g2 ⟨rfl, rfl⟩
      simp -implicitDefEqProofs (disch := (first | omega | (simp -implicitDefEqProofs only [szs, ne_eq] <;> omega) | fail)) only [go_sem, Nat.reduceAdd, Nat.reduceSub, Nat.reduceMul, Nat.reduceLT, Nat.reduceMod, Nat.reduceDiv, Nat.reduceEqDiff, Nat.reduceBEq, Nat.reduceLeDiff, ↓reduceIte, reduceCtorEq, Int.reduceAdd, Int.reduceSub, Int.reduceLT, Int.reduceLE, Int.reduceBEq, Int.reduceEq, Int.reduceToNat]
    | false =>
      simp -implicitDefEqProofs (disch := (first | omega | (simp -implicitDefEqProofs only [szs, ne_eq] <;> omega) | fail)) only [go_sem, Nat.reduceAdd, Nat.reduceSub, Nat.reduceMul, Nat.reduceLT, Nat.reduceMod, Nat.reduceDiv, Nat.reduceEqDiff, Nat.reduceBEq, Nat.reduceLeDiff, ↓reduceIte, reduceCtorEq, Int.reduceAdd, Int.reduceSub, Int.reduceLT, Int.reduceLE, Int.reduceBEq, Int.reduceEq, Int.reduceToNat, Option.isNone_some, undefV]
      refine GCall.of (num_ok 0).any ?_
      rintro w g2 ⟨rfl, rfl⟩
      simp -implicitDefEqProofs (disch := (first | omega | (simp -implicitDefEqProofs only [szs, ne_eq] <;> omega) | fail)) only [go_sem, Nat.reduceAdd, Nat.reduceSub, Nat.reduceMul, Nat.reduceLT, Nat.reduceMod, Nat.reduceDiv, Nat.reduceEqDiff, Nat.reduceBEq, Nat.reduceLeDiff, ↓reduceIte, reduceCtorEq, Int.reduceAdd, Int.reduceSub, Int.reduceLT, Int.reduceLE, Int.reduceBEq, Int.reduceEq, Int.reduceToNat, Option.isNone_some, undefV]
      refine GCall.of ((stands_ok p2.d p2.r.at (fun _ => trivial)).kept) ?_
      rintro w g3 ⟨⟨rfl, k3⟩, vf3⟩
      have p3 := p2.old vf3.n k3
      have n3 := vf3.n
      have hold3 : ∀ b, b < H.n → g3.get b = H.get b := fun b hb => by rw [k3 b (by omega), hold2 b hb]
      simp -implicitDefEqProofs (disch := (first | omega | (simp -implicitDefEqProofs only [szs, ne_eq] <;> omega) | fail)) only [go_sem, Nat.reduceAdd, Nat.reduceSub, Nat.reduceMul, Nat.reduceLT, Nat.reduceMod, Nat.reduceDiv, Nat.reduceEqDiff, Nat.reduceBEq, Nat.reduceLeDiff, ↓reduceIte, reduceCtorEq, Int.reduceAdd, Int.reduceSub, Int.reduceLT, Int.reduceLE, Int.reduceBEq, Int.reduceEq, Int.reduceToNat, undefV]
      refine GLoop.inv hm (fun k f g => f.mks = [] ∧ f.tm.n = 83 ∧ f.tm.get 1 = some v ∧ f.tm.get 2 = some (.int .i64 leave) ∧ ∃ i bd L D S rd fb pb, i + k = 60 ∧ f.tm.get 10 = some (.int .i64 (i : Nat)) ∧ f.tm.get 7 = some (.ptr (some (bd, 0))) ∧ f.tm.get 9 = some (.ptr (some (rd, 0))) ∧ Pair (fun b => H.n ≤ b) g bd L D S rd fb pb ∧ (∀ s, (D.pe s).length ≤ i) ∧ H.n ≤ g.n ∧ ∀ b, b < H.n → g.get b = H.get b) 60 ?_ ?_
      · exact ⟨rfl, rfl, by simp -implicitDefEqProofs (disch := (first | omega | (simp -implicitDefEqProofs only [szs, ne_eq] <;> omega) | fail)) only [go_sem, Nat.reduceAdd, Nat.reduceSub, Nat.reduceMul, Nat.reduceLT, Nat.reduceMod, Nat.reduceDiv, Nat.reduceEqDiff, Nat.reduceBEq, Nat.reduceLeDiff, ↓reduceIte, reduceCtorEq, Int.reduceAdd, Int.reduceSub, Int.reduceLT, Int.reduceLE, Int.reduceBEq, Int.reduceEq, Int.reduceToNat], by simp -implicitDefEqProofs (disch := (first | omega | (simp -implicitDefEqProofs only [szs, ne_eq] <;> omega) | fail)) only [go_sem, Nat.reduceAdd, Nat.reduceSub, Nat.reduceMul, Nat.reduceLT, Nat.reduceMod, Nat.reduceDiv, Nat.reduceEqDiff, Nat.reduceBEq, Nat.reduceLeDiff, ↓reduceIte, reduceCtorEq, Int.reduceAdd, Int.reduceSub, Int.reduceLT, Int.reduceLE, Int.reduceBEq, Int.reduceEq, Int.reduceToNat], 0, _, _, _, _, _, _, _, by omega, by simp -implicitDefEqProofs (disch := (first | omega | (simp -implicitDefEqProofs only [szs, ne_eq] <;> omega) | fail)) only [go_sem, Nat.reduceAdd, Nat.reduceSub, Nat.reduceMul, Nat.reduceLT, Nat.reduceMod, Nat.reduceDiv, Nat.reduceEqDiff, Nat.reduceBEq, Nat.reduceLeDiff, ↓reduceIte, reduceCtorEq, Int.reduceAdd, Int.reduceSub, Int.reduceLT, Int.reduceLE, Int.reduceBEq, Int.reduceEq, Int.reduceToNat]; rfl, by simp -implicitDefEqProofs (disch := (first | omega | (simp -implicitDefEqProofs only [szs, ne_eq] <;> omega) | fail)) only [go_sem, Nat.reduceAdd, Nat.reduceSub, Nat.reduceMul, Nat.reduceLT, Nat.reduceMod, Nat.reduceDiv, Nat.reduceEqDiff, Nat.reduceBEq, Nat.reduceLeDiff, ↓reduceIte, reduceCtorEq, Int.reduceAdd, Int.reduceSub, Int.reduceLT, Int.reduceLE, Int.reduceBEq, Int.reduceEq, Int.reduceToNat], by simp -implicitDefEqProofs (disch := (first | omega | (simp -implicitDefEqProofs only [szs, ne_eq] <;> omega) | fail)) only [go_sem, Nat.reduceAdd, Nat.reduceSub, Nat.reduceMul, Nat.reduceLT, Nat.reduceMod, Nat.reduceDiv, Nat.reduceEqDiff, Nat.reduceBEq, Nat.reduceLeDiff, ↓reduceIte, reduceCtorEq, Int.reduceAdd, Int.reduceSub, Int.reduceLT, Int.reduceLE, Int.reduceBEq, Int.reduceEq, Int.reduceToNat], p3, fun s => by simp [DS.new], by omega, hold3⟩
      rintro k ⟨⟨n', tr⟩, mks⟩ g ⟨hmk, hn', t1, t2, i, bd, L, D, S, rd, fb, pb, hi, t10, t7, t9, p, few, hgn, hold⟩
      simp only [Tm.get_mk] at hmk hn' t1 t2 t10 t7 t9
      subst hmk hn'
      by_cases him : i < m
      · by_cases hi60 : i < 60
        · rcases hv.at' with ⟨h0, _⟩ | ⟨b, o, cap, c, ce, rfl, hb, hsz, hc⟩
          · omega
          obtain ⟨kd, a1, a2, d, l, kv, mk, ks, kw, c0, c1, c2, c3, c4, ⟨hdl, hll⟩, hkv, b1, b2⟩ := hc i him
          have hb1 := (hold b (Heap.lt_of_get hb)).trans hb
          have hdg : BytesV g (fun b => ¬ H.n ≤ b ∧ b < g.n) d l := (BytesV.old hdl hold).mono fun b hb => ⟨by omega, by omega⟩
          have hkg : KeepV g (fun _ => True) kv mk ks kw := (KeepV.old hkv hold).mono fun _ _ => trivial
          simp -implicitDefEqProofs (disch := (first | omega | (simp -implicitDefEqProofs only [szs, ne_eq] <;> omega) | fail)) only [go_sem, Nat.reduceAdd, Nat.reduceSub, Nat.reduceMul, Nat.reduceLT, Nat.reduceMod, Nat.reduceDiv, Nat.reduceEqDiff, Nat.reduceBEq, Nat.reduceLeDiff, ↓reduceIte, reduceCtorEq, Int.reduceAdd, Int.reduceSub, Int.reduceLT, Int.reduceLE, Int.reduceBEq, Int.reduceEq, Int.reduceToNat, ir6_l0, t1, t2, t10, t7, t9, ↓hlen, hb1, c0, c1, c2, c3, c4, undefV]
          refine GCall.of (((do_ok (W := fun b => H.n ≤ b) p few (by omega) (fun _ h => h) b1 hdg hll hkg).kept).foot (fun _ h => h) (fun _ h => .inl h)) ?_
          rintro w g4 ⟨⟨bd', L', D', S', rd', fb', pb', rfl, p4, few4⟩, vf4⟩
          have n4 := vf4.n
          have hold4 : ∀ b, b < H.n → g4.get b = H.get b := fun b hb => by rw [vf4.get b (by omega) (by intro h; have h : H.n ≤ b := h; omega)]; exact hold b hb
          simp -implicitDefEqProofs (disch := (first | omega | (simp -implicitDefEqProofs only [szs, ne_eq] <;> omega) | fail)) only [go_sem, Nat.reduceAdd, Nat.reduceSub, Nat.reduceMul, Nat.reduceLT, Nat.reduceMod, Nat.reduceDiv, Nat.reduceEqDiff, Nat.reduceBEq, Nat.reduceLeDiff, ↓reduceIte, reduceCtorEq, Int.reduceAdd, Int.reduceSub, Int.reduceLT, Int.reduceLE, Int.reduceBEq, Int.reduceEq, Int.reduceToNat, t1, t2, undefV]
          refine GCall.of ((stands_ok p4.d p4.r.at (fun _ => trivial)).kept) ?_
          rintro w g5 ⟨⟨rfl, k5⟩, vf5⟩
          have n5 := vf5.n
          simp -implicitDefEqProofs (disch := (first | omega | (simp -implicitDefEqProofs only [szs, ne_eq] <;> omega) | fail)) only [go_sem, Nat.reduceAdd, Nat.reduceSub, Nat.reduceMul, Nat.reduceLT, Nat.reduceMod, Nat.reduceDiv, Nat.reduceEqDiff, Nat.reduceBEq, Nat.reduceLeDiff, ↓reduceIte, reduceCtorEq, Int.reduceAdd, Int.reduceSub, Int.reduceLT, Int.reduceLE, Int.reduceBEq, Int.reduceEq, Int.reduceToNat, t1, t2, t10, undefV]
          refine ⟨k - 1, by omega, i + 1, bd', L', D', S', rd', fb', pb', by omega, by simp, rfl, rfl, (p4.old n5 k5).mono (fun b hb => by rcases hb with h | h <;> omega), few4, by omega, fun b hb => by rw [k5 b (by omega)]; exact hold4 b hb⟩
        · simp -implicitDefEqProofs (disch := (first | omega | (simp -implicitDefEqProofs only [szs, ne_eq] <;> omega) | fail)) only [go_sem, Nat.reduceAdd, Nat.reduceSub, Nat.reduceMul, Nat.reduceLT, Nat.reduceMod, Nat.reduceDiv, Nat.reduceEqDiff, Nat.reduceBEq, Nat.reduceLeDiff, ↓reduceIte, reduceCtorEq, Int.reduceAdd, Int.reduceSub, Int.reduceLT, Int.reduceLE, Int.reduceBEq, Int.reduceEq, Int.reduceToNat, ir6_l0, t1, t2, t10, ↓hlen, undefV]
          refine GCall.of (knownB_ok _ _ _).any ?_
          rintro w g2 ⟨rfl, rfl⟩
          simp -implicitDefEqProofs (disch := (first | omega | (simp -implicitDefEqProofs only [szs, ne_eq] <;> omega) | fail)) only [go_sem, Nat.reduceAdd, Nat.reduceSub, Nat.reduceMul, Nat.reduceLT, Nat.reduceMod, Nat.reduceDiv, Nat.reduceEqDiff, Nat.reduceBEq, Nat.reduceLeDiff, ↓reduceIte, reduceCtorEq, Int.reduceAdd, Int.reduceSub, Int.reduceLT, Int.reduceLE, Int.reduceBEq, Int.reduceEq, Int.reduceToNat]
      · simp -implicitDefEqProofs (disch := (first | omega | (simp -implicitDefEqProofs only [szs, ne_eq] <;> omega) | fail)) only [go_sem, Nat.reduceAdd, Nat.reduceSub, Nat.reduceMul, Nat.reduceLT, Nat.reduceMod, Nat.reduceDiv, Nat.reduceEqDiff, Nat.reduceBEq, Nat.reduceLeDiff, ↓reduceIte, reduceCtorEq, Int.reduceAdd, Int.reduceSub, Int.reduceLT, Int.reduceLE, Int.reduceBEq, Int.reduceEq, Int.reduceToNat, ir6_l0, t1, t2, t10, ↓hlen, undefV]
        refine GCall.of (knownB_ok _ _ _).any ?_
        rintro w g2 ⟨rfl, rfl⟩
        simp -implicitDefEqProofs (disch := (first | omega | (simp -implicitDefEqProofs only [szs, ne_eq] <;> omega) | fail)) only [go_sem, Nat.reduceAdd, Nat.reduceSub, Nat.reduceMul, Nat.reduceLT, Nat.reduceMod, Nat.reduceDiv, Nat.reduceEqDiff, Nat.reduceBEq, Nat.reduceLeDiff, ↓reduceIte, reduceCtorEq, Int.reduceAdd, Int.reduceSub, Int.reduceLT, Int.reduceLE, Int.reduceBEq, Int.reduceEq, Int.reduceToNat]
  · refine GCall.of (new_bad hn).any ?_
    rintro v1 g1 ⟨rfl, rfl⟩
    simp -implicitDefEqProofs (disch := (first | omega | (simp -implicitDefEqProofs only [szs, ne_eq] <;> omega) | fail)) only [go_sem, Nat.reduceAdd, Nat.reduceSub, Nat.reduceMul, Nat.reduceLT, Nat.reduceMod, Nat.reduceDiv, Nat.reduceEqDiff, Nat.reduceBEq, Nat.reduceLeDiff, ↓reduceIte, reduceCtorEq, Int.reduceAdd, Int.reduceSub, Int.reduceLT, Int.reduceLE, Int.reduceBEq, Int.reduceEq, Int.reduceToNat]
    refine GCall.of (rnew_bad hn).any ?_
    rintro v2 g2 ⟨rfl, rfl⟩
    simp -implicitDefEqProofs (disch := (first | omega | (simp -implicitDefEqProofs only [szs, ne_eq] <;> omega) | fail)) only [go_sem, Nat.reduceAdd, Nat.reduceSub, Nat.reduceMul, Nat.reduceLT, Nat.reduceMod, Nat.reduceDiv, Nat.reduceEqDiff, Nat.reduceBEq, Nat.reduceLeDiff, ↓reduceIte, reduceCtorEq, Int.reduceAdd, Int.reduceSub, Int.reduceLT, Int.reduceLE, Int.reduceBEq, Int.reduceEq, Int.reduceToNat, Option.isNone_none, undefV]
    refine GCall.of (num_ok 2).any ?_
    rintro w g2 ⟨rfl, rfl⟩
    simp -implicitDefEqProofs (disch := (first | omega | (simp -implicitDefEqProofs only [szs, ne_eq] <;> omega) | fail)) only [go_sem, Nat.reduceAdd, Nat.reduceSub, Nat.reduceMul, Nat.reduceLT, Nat.reduceMod, Nat.reduceDiv, Nat.reduceEqDiff, Nat.reduceBEq, Nat.reduceLeDiff, ↓reduceIte, reduceCtorEq, Int.reduceAdd, Int.reduceSub, Int.reduceLT, Int.reduceLE, Int.reduceBEq, Int.reduceEq, Int.reduceToNat, undefV]
    refine GCall.of (knownB_ok _ _ _).any ?_
    rintro w g2 ⟨rfl, rfl⟩
    simp -implicitDefEqProofs (disch := (first | omega | (simp -implicitDefEqProofs only [szs, ne_eq] <;> omega) | fail)) only [go_sem, Nat.reduceAdd, Nat.reduceSub, Nat.reduceMul, Nat.reduceLT, Nat.reduceMod, Nat.reduceDiv, Nat.reduceEqDiff, Nat.reduceBEq, Nat.reduceLeDiff, ↓reduceIte, reduceCtorEq, Int.reduceAdd, Int.reduceSub, Int.reduceLT, Int.reduceLE, Int.reduceBEq, Int.reduceEq, Int.reduceToNat]
end Go.Proofs.Ytgkcbpagdfdpdaa
