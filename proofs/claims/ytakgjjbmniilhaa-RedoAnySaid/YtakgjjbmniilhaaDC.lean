/- The disk: Clone of contents, Copy (the disk's texts, by names). -/
import Derived.Test.YtakgjjbmniilhaaDX
import Derived.Test.YtakgjjbmniilhaaV4
set_option linter.unusedVariables false
set_option maxRecDepth 100000
set_option linter.unusedVariables false
namespace Go.Vm
theorem append_wholeS {e sz bytes : Nat} {h : Heap} {eb b o m cap : Nat} {ex : Bool} {te ce : TypeId} {c : Blk} (he : h.get eb = some (.cells (Blk.of []) te)) (hb : h.get b = some (.cells c ce)) (hsz : o + m * sz ≤ c.size) (h0 : 0 < m) (hB : m * bytes ≤ 140737488355328) (hbig : m ≤ 9223372036854775807) :
  appE e sz bytes (.slice (some (eb, 0)) 0 0 true) (.slice (some (b, o)) m cap ex) h = some ⟨.slice (some (h.n, 0)) m m false, h.push (.cells (Blk.of (c.gets o (m * sz))) e), [b] ++ [eb], []⟩ := by
 unfold appE
 simp only [xH, kT, hb, he, Nat.zero_add, Nat.zero_mul, qW hsz, Blk.qJ, zL (rfl : m * sz = m * sz), w_ble_f h0, jB, List.length_nil, qW (Nat.le_refl 0), w_gets_zero, zL (rfl : 0 = 0), qW hB, qW hbig]
 rfl
end Go.Vm
namespace Go.Proofs.Ytakgjjbmniilhaa
open Go Go.Vm
attribute [-go_sem] qQ
set_option maxHeartbeats 4000000 in
theorem clone_ok {h : Heap} {R W : Set'} {b m cap : Nat} {ex : Bool} {ce : TypeId} {c : Blk} (hb : h.get b = some (.cells c ce)) (hsz : m * 128 ≤ c.size) (h0 : 0 < m) (hm' : m ≤ 1000000000) (hR : R b) :
  SF Try.prog 61 [.slice (some (b, 0)) m cap ex] h R W fun v h' => v = .slice (some (h.n + 1, 0)) m m false ∧ h' = (h.push (.cells (Blk.of []) 101)).push (.cells (Blk.of (c.gets 0 (m * 128))) 101) := by
 have hlt := Heap.lt_of_get hb
 have hbs : kD Try.prog 77 0 [] = some (101, []) := by kernel_rfl
 refine SF.go hm Try.func61 ir61_eq ?_
 simp -implicitDefEqProofs (disch := omega) only [go_sem, seval, ↓reduceIte, reduceCtorEq, ir61, hbs, qU ap_77]
 rw [append_wholeS (te := 101) (c := c) (ce := ce) (by simp -implicitDefEqProofs (disch := omega) only [go_sem, seval]) (by simp -implicitDefEqProofs (disch := omega) only [go_sem, seval, hb]) (by omega) h0 (by omega) (by omega)]
 simp -implicitDefEqProofs (disch := omega) only [go_sem, seval, hR]
end Go.Proofs.Ytakgjjbmniilhaa
namespace Go.Proofs.Ytakgjjbmniilhaa
open Go Go.Vm
attribute [-go_sem] qQ
theorem getI_of_mem : ∀ {es : kQ} {e : V × V × Nat}, (es.map fun e => jC e.1).Nodup → e ∈ es → zG es (jC e.1) = some e.2.1
 | [], e, _, h => by cases h
 | a :: r, e, hn, h => by
  simp only [List.map_cons, List.nodup_cons] at hn
  rcases List.mem_cons.1 h with rfl | h
  ·rw [getI_hit _ rfl]
  ·rw [xG _ fun e1 => hn.1 (by rw [e1]; exact List.mem_map.2 ⟨e, h, rfl⟩)]
   exact getI_of_mem hn.2 h
theorem PendAt.mem {h : Heap} {bd : Nat} {L : DL} {D : DS} {es : kQ} {ck : Nat} (hp : PendAt h bd L D es) (hi : IMap es ck) {e : V × V × Nat} (he : e ∈ es) : ∃ x : Nat, e.1 = .int .i64 x ∧ D.pe x ≠ [] ∧ e.2.1 = .slice (some (L.pb x, 0)) (D.pe x).length (D.pe x).length false := by
 obtain ⟨k, hk⟩ := hi.ints e he
 have hg := getI_of_mem hi.keys he
 rw [hk, show jC (V.int .i64 k) = k from rfl] at hg
 by_cases h0 : k < 0
 ·rw [hp.neg k h0] at hg; cases hg
 ·obtain ⟨x, rfl⟩ := Int.eq_ofNat_of_zero_le (Int.not_lt.1 h0)
  rw [hp.has] at hg
  split at hg
  ·cases hg
  ·rename_i hne
   exact ⟨x, hk, hne, by simpa using hg.symm⟩
theorem PendAt.key {h : Heap} {bd : Nat} {L : DL} {D : DS} {es : kQ} {ck : Nat} (hp : PendAt h bd L D es) (hi : IMap es ck) (x : Nat) : (x : Int) ∈ (es.map fun e => jC e.1) ↔ D.pe x ≠ [] := by
 constructor
 ·intro hm
  obtain ⟨e, he, hx⟩ := List.mem_map.1 hm
  obtain ⟨y, e1, e2, _⟩ := hp.mem hi he
  rw [e1] at hx
  have : (y : Int) = x := hx
  have : y = x := by omega
  subst this; exact e2
 ·intro hne
  have := hp.has x
  rw [if_neg hne] at this
  obtain ⟨e, he, hk⟩ := getI_mem this
  exact List.mem_map.2 ⟨e, he, hk⟩
def KeepV (h : Heap) (R : Set') (v : V) (m : Nat) (ks kw : Nat → Int) : Prop := m ≤ 9223372036854775807 ∧ ((m = 0 ∧ (v = .slice none 0 0 true ∨ ∃ a, v = .esl a)) ∨ ∃ b o cap ex c ce, v = .slice (some (b, o)) m cap ex ∧ R b ∧ h.get b = some (.cells c ce) ∧ o + m * 2 ≤ c.size ∧ ∀ i, i < m → c.get (o + i * 2) = .int .i64 (ks i) ∧ c.get (o + i * 2 + 1) = .int .i64 (kw i))
theorem KeepV.len {h : Heap} {R : Set'} {v : V} {m : Nat} {ks kw : Nat → Int} (hv : KeepV h R v m ks kw) (g : Heap) : lenV Try.prog 125 v g = some (m, []) := by
 rcases hv.2 with ⟨rfl, rfl | ⟨a, rfl⟩⟩ | ⟨b, o, cap, ex, c, ce, rfl, _⟩ <;> simp [lenV, Try.underlying125]
def keepOk (D : DS) (ks kw : Nat → Int) (i : Nat) : Prop := (0 ≤ ks i ∧ ks i < D.n) ∧ 0 ≤ kw i ∧ kw i ≤ (D.pe (ks i).toNat).length ∧ ∀ j, j < i → ks j ≠ ks i
instance (D : DS) (ks kw : Nat → Int) (i : Nat) : Decidable (keepOk D ks kw i) := by unfold keepOk; infer_instance
def crashF (D : DS) (ks kw : Nat → Int) : Nat → Option (Nat → List V)
 | 0 => some D.fl
 | i + 1 => match crashF D ks kw i with
  | none => none
  | some f => if keepOk D ks kw i then some (fun x => if (x : Int) = ks i ∧ 0 < kw i then (D.pe x).getD (kw i - 1).toNat [] else f x) else none
theorem crashF_none {D : DS} {ks kw : Nat → Int} {i : Nat} (h : crashF D ks kw i = none) : ∀ {m : Nat}, i ≤ m → crashF D ks kw m = none := by
  intro m hm'
  induction m with
  | zero => have : i = 0 := by omega
            subst this; exact h
  | succ m ih =>
    by_cases e : i = m + 1
    · subst e; exact h
    · simp only [crashF, ih (by omega)]
def DS.crashed (D : DS) (f : Nat → List V) : DS := ⟨D.n, f, fun _ => [], D.wr⟩
def crL (n : Nat) (D : DS) : DL := ⟨n + 1, n + 2, fun _ => 0, D.n, false⟩
theorem DiskAt.crashed {g : Heap} {n : Nat} {D : DS} {f : Nat → List V} (hp : 1 ≤ D.n ∧ D.n ≤ 4096) (hd : ∃ c, g.get (n + 3) = some (.cells c 80) ∧ c.size = 3 ∧ c.ro = false ∧ c.get 0 = .slice (some (n + 1, 0)) D.n D.n false ∧ c.get 1 = .map (some (n + 2)) ∧ c.get 2 = .int .i64 D.wr)
  (hf : ∃ c, g.get (n + 1) = some (.cells c 101) ∧ c.size = D.n * 128 ∧ c.ro = false ∧ ∀ s, s < D.n → c.gets (s * 128) secN = f s) (hmp : g.get (n + 2) = some (.map [] 0)) (hs : ∀ s, s < D.n → zS (f s)) : DiskAt g (n + 3) (crL n D) (D.crashed f) :=
 ⟨hp, hd, hf, ⟨[], 0, hmp, IMap.nil, ⟨fun x => by simp [DS.crashed, zG], fun x _ => rfl, fun x hx => absurd rfl hx, fun x y hx => absurd rfl hx⟩⟩, hs, fun s l hl => by simp [DS.crashed] at hl, fun s _ => rfl, fun s => by simp [DS.crashed]⟩
theorem DiskAt.poke {h h' : Heap} {bd : Nat} {L : DL} {D : DS} {F : Nat → List V} {s : Nat} {l : List V} {f : Blk} (hd : DiskAt h bd L (D.crashed F)) (hs : s < D.n) (hl : zS l) (hf : h.get L.fb = some (.cells f 101)) (hf' : h'.get L.fb = some (.cells (f.jL (s * 128) l) 101))
  (hk : ∀ b, b ≠ L.fb → zZ bd L (D.crashed F) b → h'.get b = h.get b) : DiskAt h' bd L (D.crashed fun x => if x = s then l else F x) := by
 have hN := zA
 have hsl := hl.1
 obtain ⟨hp, ⟨c, d1, d2⟩, ⟨f', f1, f2, f3, f4⟩, ⟨es, ck, m1, m2, m3⟩, h1, h2, h3, h4⟩ := hd
 rw [f1] at hf
 obtain rfl : f' = f := by simpa using hf
 have hne1 : bd ≠ L.fb := fun e => by rw [e, f1] at d1; cases d1
 have hne2 : L.mb ≠ L.fb := fun e => by rw [e, f1] at m1; cases m1
 refine ⟨hp, ⟨c, by rw [hk _ hne1 (.inl rfl)]; exact d1, d2⟩, ⟨_, hf', by rw [Blk.jR]; exact f2, by rw [Blk.yU]; exact f3, fun x hx => ?_⟩, ⟨es, ck, by rw [hk _ hne2 (.inr (.inr (.inl rfl)))]; exact m1, m2, ⟨m3.has, m3.neg, fun x hx => absurd rfl hx, fun x y hx => absurd rfl hx⟩⟩, fun x hx => ?_, h2, h3, h4⟩
 ·have hx : x < D.n := hx
  have f2 : f'.size = D.n * 128 := f2
  simp only [DS.crashed]
  by_cases hxs : x = s
  ·subst hxs
   rw [if_pos rfl]
   exact Blk.xM hsl.symm (by rw [f2]; omega)
  ·rw [if_neg hxs, Blk.gets_putA_ne (by rw [f2]; omega) (by omega)]
   exact f4 x hx
 ·simp only [DS.crashed]
  split
  ·exact hl
  ·exact h1 x hx
theorem stK (h : Heap) (x y : Int) : ∃ h2, ((h.push (O.cells (Blk.of [V.int IntKind.i64 0, V.int IntKind.i64 0]) 127)).set h.n
   (O.cells (((Blk.of [V.int IntKind.i64 0, V.int IntKind.i64 0]).set 0 (V.int IntKind.i64 x)).set 1 (V.int IntKind.i64 y)) 127)) = h2 ∧ h2.n = h.n + 1 ∧
   (∃ s, h2.get h.n = some (.cells s 127) ∧ s.size = 2 ∧ s.get 0 = .int .i64 x ∧ s.get 1 = .int .i64 y) ∧ ∀ b, b < h.n → h2.get b = h.get b := by
 refine ⟨_, rfl, by simp, ⟨(((Blk.of [V.int IntKind.i64 0, V.int IntKind.i64 0]).set 0 (V.int IntKind.i64 x)).set 1 (V.int IntKind.i64 y)), by simp -implicitDefEqProofs (disch := first | omega | (simp -implicitDefEqProofs only [szs, ne_eq] <;> omega) | fail) only [go_sem, seval], rfl, ?_, ?_⟩, fun b hb => by simp -implicitDefEqProofs (disch := first | omega | (simp -implicitDefEqProofs only [szs, ne_eq] <;> omega) | fail) only [go_sem, seval]⟩ <;> simp -implicitDefEqProofs (disch := first | omega | (simp -implicitDefEqProofs only [szs, ne_eq] <;> omega) | fail) only [go_sem, seval]
def CrashQ (h : Heap) (D : DS) (ks kw : Nat → Int) (m : Nat) (v : V) (h' : Heap) : Prop := (∀ b, b < h.n → h'.get b = h.get b) ∧ match crashF D ks kw m with
 | none => v = .tuple [.ptr none, .int .i64 2]
 | some f => v = .tuple [.ptr (some (h.n + 3, 0)), .int .i64 0] ∧ DiskAt h' (h.n + 3) (crL h.n D) (D.crashed f)
theorem CrashQ.bad {h h' : Heap} {D : DS} {ks kw : Nat → Int} {i m : Nat} (hk : ∀ b, b < h.n → h'.get b = h.get b) (hn : crashF D ks kw i = none) (him : i ≤ m) : CrashQ h D ks kw m (.tuple [.ptr none, .int .i64 2]) h' := by
 refine ⟨hk, ?_⟩
 rw [crashF_none hn him]
set_option maxHeartbeats 2000000 in
theorem crash_ok {h : Heap} {R W : Set'} {bd : Nat} {L : DL} {D : DS} (hd : DiskAt h bd L D) (hR : ∀ b, zZ bd L D b → R b) {v : V} {m : Nat} {ks kw : Nat → Int} (hv : KeepV h R v m ks kw) :
  SF Try.prog 32 [.ptr (some (bd, 0)), v] h R W (CrashQ h D ks kw m) := by
 obtain ⟨c, h1, sz, ro, c0, c1, c2⟩ := hd.d
 obtain ⟨f0, f1, fs, fro, fg⟩ := hd.f
 have hp := hd.pos
 have hR1 := hR bd (.inl rfl)
 have hR2 := hR L.fb (.inr (.inl rfl))
 have hR3 := hR L.mb (.inr (.inr (.inl rfl)))
 have hlen := hv.len
 have hm1 := hv.1
 have hlt1 := Heap.lt_of_get h1
 have hlt2 := Heap.lt_of_get f1
 refine SF.go hm Try.func32 ir32_eq ?_
 simp -implicitDefEqProofs (disch := first | omega | (simp -implicitDefEqProofs only [szs, ne_eq] <;> omega) | fail) only [go_sem, seval, ↓reduceIte, reduceCtorEq, ir32]
 refine qK.of (there_ok hd (.inr hR1)) ?_
 rintro w h' ⟨rfl, rfl⟩
 simp -implicitDefEqProofs (disch := first | omega | (simp -implicitDefEqProofs only [szs, ne_eq] <;> omega) | fail) only [go_sem, seval, ↓reduceIte, reduceCtorEq, h1, c0]
 refine qN.of (R' := fun b => b = L.fb) (W' := fun _ => False) (clone_ok (ce := 101) f1 (by omega) (by omega) (by omega) rfl) ?_
 rintro w h' ⟨rfl, rfl⟩
 simp -implicitDefEqProofs (disch := first | omega | (simp -implicitDefEqProofs only [szs, ne_eq] <;> omega) | fail) only [go_sem, seval, ↓reduceIte, reduceCtorEq, h1, c2, ↓hlen]
 refine ⟨?_, ⟨fun _ => .inr hR1, fun b _ e => .inr (e ▸ hR2), fun b _ e => e.elim, fun _ => .inr hR1⟩, ?_⟩
 ·simp only [List.not_mem_nil, or_false, false_or, and_false, false_implies, implies_true, not_false_eq_true, List.mem_cons, and_true, true_and]
  and_intros <;> intros <;> omega
 have hfl := hd.fl
 have hsz : D.n * 128 ≤ f0.size := by omega
 refine kE.inv hm (fun k f g => f.mks = [] ∧ f.tm.n = 90 ∧ f.tm.get 0 = some (.ptr (some (bd, 0))) ∧ f.tm.get 6 = some (.ptr (some (h'.n + 3, 0))) ∧ f.tm.get 7 = some (.map (some (h'.n + 4))) ∧ f.tm.get 8 = some (.bool false) ∧ f.tm.get 27 = some v ∧ f.tm.get 28 = some (.int .i64 m) ∧ ∃ i : Nat, i + k = m ∧ f.tm.get 29 = some (.int .i64 i) ∧ h'.n + 5 ≤ g.n ∧ (∀ b, b < h'.n → g.get b = h'.get b) ∧
  ∃ F, crashF D ks kw i = some F ∧ DiskAt g (h'.n + 3) (crL h'.n D) (D.crashed F) ∧ ∃ es ck, g.get (h'.n + 4) = some (.map es ck) ∧ IMap es ck ∧ ∀ x : Int, zG es x = if ∃ j, j < i ∧ ks j = x then some (.bool true) else none) m ?_ ?_
 ·refine ⟨rfl, rfl, by simp -implicitDefEqProofs (disch := first | omega | (simp -implicitDefEqProofs only [szs, ne_eq] <;> omega) | fail) only [go_sem, seval, ↓reduceIte], by simp -implicitDefEqProofs (disch := first | omega | (simp -implicitDefEqProofs only [szs, ne_eq] <;> omega) | fail) only [go_sem, seval, ↓reduceIte, reduceCtorEq], by simp -implicitDefEqProofs (disch := first | omega | (simp -implicitDefEqProofs only [szs, ne_eq] <;> omega) | fail) only [go_sem, seval, ↓reduceIte, reduceCtorEq], by simp -implicitDefEqProofs (disch := first | omega | (simp -implicitDefEqProofs only [szs, ne_eq] <;> omega) | fail) only [go_sem, seval, ↓reduceIte, reduceCtorEq], by simp -implicitDefEqProofs (disch := first | omega | (simp -implicitDefEqProofs only [szs, ne_eq] <;> omega) | fail) only [go_sem, seval, ↓reduceIte, reduceCtorEq], by simp -implicitDefEqProofs (disch := first | omega | (simp -implicitDefEqProofs only [szs, ne_eq] <;> omega) | fail) only [go_sem, seval, ↓reduceIte, reduceCtorEq], 0, by omega, by simp -implicitDefEqProofs (disch := first | omega | (simp -implicitDefEqProofs only [szs, ne_eq] <;> omega) | fail) only [go_sem, Nat.reduceSub, Nat.reduceMod, Nat.reduceDiv, ↓reduceIte, reduceCtorEq]; rfl, by simp, fun b hb => by simp -implicitDefEqProofs (disch := first | omega | (simp -implicitDefEqProofs only [szs, ne_eq] <;> omega) | fail) only [go_sem, seval], D.fl, rfl, DiskAt.crashed hp ⟨Blk.of [V.slice (some (h'.n + 1, 0)) D.n D.n false, V.map (some (h'.n + 2)), V.int IntKind.i64 D.wr], by simp -implicitDefEqProofs (disch := first | omega | (simp -implicitDefEqProofs only [szs, ne_eq] <;> omega) | fail) only [go_sem, seval], rfl, rfl, rfl, rfl, rfl⟩ ⟨Blk.of (f0.gets 0 (D.n * 128)), by simp -implicitDefEqProofs (disch := first | omega | (simp -implicitDefEqProofs only [szs, ne_eq] <;> omega) | fail) only [go_sem, seval], by rw [jB, Blk.qJ], rfl, fun s hs => ?_⟩ (by simp -implicitDefEqProofs (disch := first | omega | (simp -implicitDefEqProofs only [szs, ne_eq] <;> omega) | fail) only [go_sem, seval]) hfl, [], 0, by simp -implicitDefEqProofs (disch := first | omega | (simp -implicitDefEqProofs only [szs, ne_eq] <;> omega) | fail) only [go_sem, seval], IMap.nil, fun x => by simp [zG]⟩
  have hN := zA
  have hle := hfl s hs
  rw [← fg s hs]
  refine Blk.jH (fun j hj => ?_) (by rw [Blk.qJ])
  rw [Blk.qJ] at hj
  rw [Blk.get_of _ _ (by rw [Blk.qJ]; omega), List.getD_eq_getElem?_getD, Blk.qM _ _ _ _ (by omega), List.getD_eq_getElem?_getD, Blk.qM _ _ _ _ hj, Nat.zero_add]
 rintro k ⟨⟨n', tr⟩, mks⟩ g ⟨hmk, hn', t0, t6, t7, t8, t27, t28, i, hik, t29, hgn, hgo, F, hF, hdc, es, ck, g4, hi4, hg4⟩
 simp only [Tm.kL] at hmk hn' t0 t6 t7 t8 t27 t28 t29
 subst hmk hn'
 by_cases him : i < m
 ·rcases hv.2 with ⟨h0, _⟩ | ⟨b, o, cap, ex, cv, ce, rfl, hRb, hb, hsv, hcv⟩
  ·omega
  obtain ⟨k0, k1⟩ := hcv i him
  have hltb := Heap.lt_of_get hb
  have hgb : g.get b = some (.cells cv ce) := by rw [hgo b hltb]; exact hb
  obtain ⟨h2, e2, hn2, ⟨s2, q1, q2, q3, q4⟩, hold⟩ := stK g (ks i) (kw i)
  have hd2 : DiskAt h2 bd L D := hd.old fun b hb => by rw [hold b (by omega)]; exact hgo b hb
  have hdc2 := hdc.old hold
  have hb2 : h2.get (h'.n + 4) = some (.map es ck) := by rw [hold _ (by omega)]; exact g4
  have hold2 : ∀ b, b < h'.n → h2.get b = h'.get b := fun b hb => by rw [hold b (by omega)]; exact hgo b hb
  have hgl : g.n < h2.n := by omega
  have hb5 : h'.n + 4 < h2.n := by omega
  have hbad : ¬ keepOk D ks kw i → crashF D ks kw (i + 1) = none := fun hn => by simp only [crashF, hF, if_neg hn]
  obtain ⟨cd, u1, u2, u3, u4, u5, u6⟩ := hd2.d
  simp -implicitDefEqProofs (disch := first | omega | (simp -implicitDefEqProofs only [szs, ne_eq] <;> omega) | fail) only [go_sem, seval, ↓reduceIte, reduceCtorEq, ir32_l0, t0, t27, t28, t29, hgb, k0, k1, hRb, e2, q1, q2, q3]
  refine ⟨.inl (by omega), ?_⟩
  refine qN.of (R' := fun b => b = bd) (W' := fun _ => False) (ask_ok (R := fun b => b = bd) hd2 rfl (ks i)) ?_
  rintro w h3 ⟨rfl, rfl⟩
  clear e2
  by_cases hks : 0 ≤ ks i ∧ ks i < D.n
  ·have ha : askV D (ks i) = 0 := if_pos hks
   rw [ha]
   obtain ⟨s, hs⟩ := Int.eq_ofNat_of_zero_le hks.1
   rw [hs] at hks q3 k0 ⊢
   have hlk := hd2.look s
   have hkz : ∀ X Y : Prop, (ks i).toNat = s := fun _ _ => by omega
   have hfoot : ∀ b, b < h3.n → b = bd → h'.n ≤ b ∨ R b := fun b _ e => .inr (e ▸ hR1)
   have hbd : bd < h3.n → h'.n ≤ bd ∨ R bd := fun _ => .inr hR1
   have hgn3 : g.n < h3.n → h'.n ≤ g.n ∨ R g.n := fun _ => .inl (by omega)
   have hmb3 : L.mb < h3.n → h'.n ≤ L.mb ∨ R L.mb := fun _ => .inr hR3
   have hnb3 : h'.n + 4 < h3.n → h'.n ≤ h'.n + 4 ∨ R (h'.n + 4) := fun _ => .inl (by omega)
   by_cases hw0 : kw i < 0
   ·simp -implicitDefEqProofs (disch := first | omega | (simp -implicitDefEqProofs only [szs, ne_eq] <;> omega) | fail) only [go_sem, seval, ↓reduceIte, reduceCtorEq, q1, q2, q4, qE]
    refine ⟨?_, CrashQ.bad hold2 (hbad fun h => by have := h.2.1; omega) (by omega)⟩
    simp only [false_implies, implies_true, and_true, true_and]
    exact ⟨hgn3, hfoot, hgn3⟩
   ·have hlk' : ∃ v, lookV Try.prog 78 h3 (.map (some L.mb)) (.int .i64 s) false = some (v, [L.mb]) ∧ ∀ g, lenV Try.prog 77 v g = some ((D.pe s).length, []) := by
     rw [hlk]
     by_cases he : D.pe s = []
     ·exact ⟨_, rfl, fun g => by simp [he, lenV, Try.underlying77]⟩
     ·exact ⟨_, rfl, fun g => by simp [he, lenV, Try.underlying77]⟩
    obtain ⟨lv, hlv, hll⟩ := hlk'
    by_cases hw1 : kw i > (D.pe s).length
    ·simp -implicitDefEqProofs (disch := first | omega | (simp -implicitDefEqProofs only [szs, ne_eq] <;> omega) | fail) only [go_sem, seval, ↓reduceIte, reduceCtorEq, t0, q1, q2, q3, q4, qE, u1, u5, hlv, ↓hll]
     refine ⟨?_, CrashQ.bad hold2 (hbad fun h => by have := h.2.2.1; rw [hs, Int.toNat_natCast] at this; omega) (by omega)⟩
     simp only [false_implies, implies_true, and_true, true_and]
     exact ⟨hgn3, hfoot, hgn3, hgn3, hbd, hgn3, hmb3⟩
    ·have hln := look_int (P := Try.prog) (t := 130) Try.underlying130 Try.underlying3 zv_4 hb2 hi4 (s : Int)
     rw [hg4] at hln
     by_cases hnm : ∃ j, j < i ∧ ks j = s
     ·rw [if_pos hnm, Option.getD_some] at hln
      simp -implicitDefEqProofs (disch := first | omega | (simp -implicitDefEqProofs only [szs, ne_eq] <;> omega) | fail) only [go_sem, seval, ↓reduceIte, reduceCtorEq, t0, t7, q1, q2, q3, q4, u1, u5, hlv, ↓hll, hln]
      refine ⟨?_, CrashQ.bad hold2 (hbad fun h => by obtain ⟨j, hj, e⟩ := hnm; exact h.2.2.2 j hj (e.trans hs.symm)) (by omega)⟩
      simp only [false_implies, implies_true, true_and]
      exact ⟨hgn3, hfoot, hgn3, hgn3, hbd, hgn3, hmb3, hgn3⟩
     ·rw [if_neg hnm, Option.getD_none] at hln
      obtain ⟨es', ck', hu, x1, x2, x3⟩ := upd_int (P := Try.prog) (t := 130) Try.underlying130 Try.underlying3 hb2 hi4 (s : Int) (.bool true)
      have hok : keepOk D ks kw i := ⟨by rw [hs]; exact hks, by omega, by rw [hs, Int.toNat_natCast]; omega, fun j hj e => hnm ⟨j, hj, e.trans hs⟩⟩
      have hF' : crashF D ks kw (i + 1) = some (fun x : Nat => if (x : Int) = ks i ∧ 0 < kw i then (D.pe x).getD (kw i - 1).toNat [] else F x) := by simp only [crashF, hF, if_pos hok]
      have hnamed : ∀ x : Int, zG es' x = if ∃ j, j < i + 1 ∧ ks j = x then some (.bool true) else none := fun x => by
       rw [x2, hg4]
       by_cases hx : x = s
       ·rw [if_pos hx, if_pos ⟨i, by omega, hs.trans hx.symm⟩]
       ·rw [if_neg hx]
        by_cases hy : ∃ j, j < i ∧ ks j = x
        ·rw [if_pos hy, if_pos (by obtain ⟨j, h1, h2⟩ := hy; exact ⟨j, by omega, h2⟩)]
        ·rw [if_neg hy, if_neg (by
          rintro ⟨j, h1, h2⟩
          by_cases e : j = i
          ·subst e; exact hx (h2.symm.trans hs)
          ·exact hy ⟨j, by omega, h2⟩)]
      obtain ⟨h4, e4⟩ : ∃ h4, h4 = h3.set (h'.n + 4) (.map es' ck') := ⟨_, rfl⟩
      have k4 : ∀ b, b ≠ h'.n + 4 → h4.get b = h3.get b := fun b hb => by rw [e4, qB (by omega) hb]
      have n4 : h4.n = h3.n := by rw [e4]; rfl
      have m4 : h4.get (h'.n + 4) = some (.map es' ck') := by rw [e4, qF (by omega) rfl]
      have hd4 : DiskAt h4 bd L D := hd.old fun b hb => by rw [k4 b (by omega)]; exact hold2 b hb
      have hdc4 : DiskAt h4 (h'.n + 3) (crL h'.n D) (D.crashed F) := hdc2.same fun b hb _ => k4 b (by
       rcases hb with rfl | rfl | rfl | ⟨x, hx, _⟩
       ·omega
       ·simp only [crL]; omega
       ·simp only [crL]; omega
       ·exact absurd rfl hx)
      have q14 : h4.get g.n = some (.cells s2 127) := by rw [k4 _ (by omega)]; exact q1
      rw [← e4] at hu
      simp -implicitDefEqProofs (disch := first | omega | (simp -implicitDefEqProofs only [szs, ne_eq] <;> omega) | fail) only [go_sem, seval, ↓reduceIte, reduceCtorEq, t0, t6, t7, t8, t27, t28, t29, q1, q2, q3, q4, qE, u1, u5, hlv, ↓hll, hln, hu, q14]
      refine ⟨?_, .inl (by omega), .inl (by omega), ?_⟩
      ·simp only [false_implies, implies_true, true_and]
       exact ⟨hgn3, hfoot, hgn3, hgn3, hbd, hgn3, hmb3, hgn3⟩
      by_cases hz : kw i = 0
      ·rw [hz] at q4 ⊢
       simp -implicitDefEqProofs (disch := first | omega | (simp -implicitDefEqProofs only [szs, ne_eq] <;> omega) | fail) only [go_sem, seval]
       refine ⟨k - 1, by omega, i + 1, by omega, by simp, by omega, fun b hb => by rw [k4 b (by omega)]; exact hold2 b hb, _, hF', ?_, es', ck', m4, x1, hnamed⟩
       rw [show (fun x : Nat => if (x : Int) = ks i ∧ 0 < kw i then (D.pe x).getD (kw i - 1).toNat [] else F x) = F from funext fun x => if_neg (by omega)]
       exact hdc4
      ·obtain ⟨w, hw⟩ : ∃ w : Nat, kw i = (w : Int) + 1 := ⟨(kw i - 1).toNat, by omega⟩
       rw [hw] at q4 ⊢
       have hwl : w < (D.pe s).length := by omega
       have hne : D.pe s ≠ [] := List.length_pos_iff.1 (by omega)
       have hlk4 := hd4.look s
       rw [if_neg hne] at hlk4
       obtain ⟨es4, ck4, y1, y2, y3⟩ := hd4.m
       obtain ⟨z1, z2⟩ := y3.blk s hne
       obtain ⟨cc, v1, v2, v3, v4, v5, v6⟩ := hd4.d
       obtain ⟨cr, r1, r2, r3, r4, r5, r6⟩ := hdc4.d
       obtain ⟨fr, a1, a2, a3, a4⟩ := hdc4.f
       have a1 : h4.get (h'.n + 1) = some (.cells fr 101) := a1
       have a2 : fr.size = D.n * 128 := a2
       have r4 : cr.get 0 = .slice (some (h'.n + 1, 0)) D.n D.n false := r4
       have hfl4 := flat_len (hd4.pe s)
       have few4 := hd4.few s
       have hln4 : (D.pe s)[w]? = some ((D.pe s).getD w []) := by rw [List.getD_eq_getElem?_getD, List.getElem?_eq_getElem hwl]; rfl
       have hgs4 := flat_gets (hd4.pe s) hln4
       have hsec4 := hd4.pe s _ (List.mem_of_getElem? hln4)
       have hone4 := hsec4.one
       have hsl4 := hsec4.1
       have hN := zA
       have hwi : (w : Int) + 1 - 1 = w := by omega
       have hR4 := hR (L.pb s) (.inr (.inr (.inr ⟨s, hne, rfl⟩)))
       simp -implicitDefEqProofs (disch := first | omega | (simp -implicitDefEqProofs only [szs, ne_eq] <;> omega) | fail) only [go_sem, seval, r1, r4, v1, v5, hlk4, hwi, z1, hfl4, hgs4, ↓hone4, hsl4, a1, a2, a3, sz101]
       rw [← n4] at hgn3 hbd hmb3
       refine ⟨⟨hgn3, hbd, hgn3, hmb3, hgn3, fun _ => .inr hR4⟩, k - 1, by omega, i + 1, by omega, by simp, by omega, fun b hb => ?_, _, hF', ?_, es', ck', m4, x1, hnamed⟩
       ·rw [qB (by omega) (by omega), k4 b (by omega)]; exact hold2 b hb
       ·have hEq : (fun x : Nat => if (x : Int) = ks i ∧ 0 < kw i then (D.pe x).getD (kw i - 1).toNat [] else F x) = (fun x : Nat => if x = s then (D.pe s).getD w [] else F x) := funext fun x => by
         by_cases hx : x = s
         ·subst hx
          rw [if_pos ⟨hs.symm, by omega⟩, if_pos rfl, show (kw i - 1).toNat = w by omega]
         ·rw [if_neg (by omega), if_neg hx]
        rw [hEq]
        exact hdc4.poke (by omega) hsec4 a1 (by rw [show (crL h'.n D).fb = h'.n + 1 from rfl, qF (by omega) rfl]) fun b hb _ => by rw [qB (by omega) (by simpa [crL] using hb)]
  ·have ha : askV D (ks i) = 2 := if_neg hks
   rw [ha]
   simp -implicitDefEqProofs (disch := first | omega | (simp -implicitDefEqProofs only [szs, ne_eq] <;> omega) | fail) only [go_sem, seval, ↓reduceIte, reduceCtorEq, qE]
   refine ⟨?_, CrashQ.bad hold2 (hbad fun h => hks h.1) (by omega)⟩
   simp only [false_implies, implies_true, and_true]
   exact ⟨fun _ => .inl (by omega), fun b _ e => .inr (e ▸ hR1)⟩
 ·have : i = m := by omega
  subst this
  simp -implicitDefEqProofs (disch := first | omega | (simp -implicitDefEqProofs only [szs, ne_eq] <;> omega) | fail) only [go_sem, seval, ↓reduceIte, ir32_l0, t6, t8, t28, t29]
  exact ⟨hgo, by rw [hF]; exact ⟨rfl, hdc⟩⟩
def cpT (l : kQ) (x : Nat) : Bool := l.any fun e => decide (jC e.1 = (x : Int))
def cpD (D : DS) (l : kQ) : DS := { D with pe := fun x => if cpT l x then D.pe x else [] }
theorem cpT_snoc (l : kQ) (e : V × V × Nat) (x : Nat) : cpT (l ++ [e]) x = (cpT l x || decide (jC e.1 = (x : Int))) := by
 simp [cpT]
theorem DiskAt.fill {h h' : Heap} {bd : Nat} {L : DL} {D : DS} {s nb : Nat} {ll : List (List V)} (hd : DiskAt h bd L D) (hs : s < D.n) (h0 : ll ≠ []) (hl : ∀ l ∈ ll, zS l) (few : ll.length ≤ 1000000000) (hn : h.n ≤ nb)
  (hk : ∀ b, b < h.n → b ≠ L.mb → h'.get b = h.get b)
  (km : ∃ es ck es' ck', h.get L.mb = some (.map es ck) ∧ h'.get L.mb = some (.map es' ck') ∧ IMap es' ck' ∧ ∀ x, zG es' x = if x = s then some (.slice (some (nb, 0)) ll.length ll.length false) else zG es x)
  (kb : h'.get nb = some (.cells (Blk.of ll.flatten) 101)) : DiskAt h' bd (L.write s nb) { D with pe := fun x => if x = s then ll else D.pe x } := by
 obtain ⟨hp, ⟨c, d1, d2⟩, ⟨f, f1, f2⟩, ⟨es, ck, m1, m2, m3⟩, h1, h2, h3, h4⟩ := hd
 obtain ⟨es0, ck0, es', ck', e0, e1, e2, e3⟩ := km
 rw [m1] at e0
 obtain ⟨rfl, rfl⟩ : es = es0 ∧ ck = ck0 := by simpa using e0
 have ld := Heap.lt_of_get d1
 have lf := Heap.lt_of_get f1
 have lm := Heap.lt_of_get m1
 have n1 : bd ≠ L.mb := fun e => by rw [e, m1] at d1; cases d1
 have n2 : L.fb ≠ L.mb := fun e => by rw [e, m1] at f1; cases f1
 have nbd : nb ≠ bd := by omega
 refine ⟨hp, ⟨c, by rw [hk _ ld n1]; exact d1, d2⟩, ⟨f, by rw [show (L.write s nb).fb = L.fb from rfl, hk _ lf n2]; exact f1, f2⟩, ⟨es', ck', e1, e2, ⟨fun x => ?_, fun x hx => ?_, fun x hx => ?_, fun x y hx hy hxy => ?_⟩⟩, h1, fun x l hxl => ?_, fun x hx => ?_, fun x => ?_⟩
 ·rw [e3]
  simp only [DL.write]
  by_cases hx : x = s
  ·subst hx
   simp [h0]
  ·rw [if_neg (by omega), m3.has]
   simp only [if_neg hx]
 ·rw [e3, if_neg (by omega)]
  exact m3.neg x hx
 ·simp only [DL.write] at hx ⊢
  by_cases hxs : x = s
  ·subst hxs
   rw [if_pos rfl, if_pos rfl]
   exact ⟨kb, by omega, by omega, by omega⟩
  ·rw [if_neg hxs] at hx
   rw [if_neg hxs, if_neg hxs]
   obtain ⟨q1, q2, q3, q4⟩ := m3.blk x hx
   exact ⟨by rw [hk _ (Heap.lt_of_get q1) q4]; exact q1, q2, q3, q4⟩
 ·simp only [DL.write] at hx hy ⊢
  by_cases hxs : x = s
  ·rw [if_pos hxs, if_neg (by omega)]
   rw [if_neg (by omega)] at hy
   have := Heap.lt_of_get (m3.blk y hy).1
   omega
  ·rw [if_neg hxs] at hx ⊢
   by_cases hys : y = s
   ·rw [if_pos hys]
    have := Heap.lt_of_get (m3.blk x hx).1
    omega
   ·rw [if_neg hys] at hy ⊢
    exact m3.inj x y hx hy hxy
 ·simp only [] at hxl
  split at hxl
  ·exact hl l hxl
  ·exact h2 x l hxl
 ·have hx : D.n ≤ x := hx
  simp only []
  rw [if_neg (by omega)]; exact h3 x hx
 ·simp only []
  split
  ·exact few
  ·exact h4 x
structure CpAt (n0 : Nat) (h0 : Heap) (tr : Tr V) (D : DS) (l : kQ) (g : Heap) : Prop where
 n : n0 + 8 ≤ g.n
 old : ∀ x, x < n0 → g.get x = h0.get x
 box : ∃ c, g.get (n0 + 4) = some (.cells c 24) ∧ c.size = 1 ∧ c.get 0 = .ptr (some (n0 + 3, 0))
 mark : g.get (n0 + 6) = some (.deferred true)
 loop : g.get (n0 + 7) = some (.loop ⟨.ready, none, ⟨36, tr⟩, [26, 27], (rc28 0).1, (rc28 0).2, n0 + 6⟩)
 disk : ∃ L', DiskAt g (n0 + 3) L' (cpD D l) ∧ L'.fb = n0 + 1 ∧ L'.mb = n0 + 2 ∧ ∀ x, (cpD D l).pe x ≠ [] → n0 + 9 ≤ L'.pb x ∧ L'.pb x < g.n
theorem CpAt.keep {n0 : Nat} {h0 g g' : Heap} {tr : Tr V} {D : DS} {l : kQ} (hc : CpAt n0 h0 tr D l g) (hn : g.n ≤ g'.n) (hk : ∀ b, b < g.n → b ≠ n0 + 8 → g'.get b = g.get b) : CpAt n0 h0 tr D l g' := by
 have n := hc.n
 obtain ⟨c, b1, b2⟩ := hc.box
 obtain ⟨L', d1, d2, d3, d4⟩ := hc.disk
 refine ⟨by omega, fun x hx => by rw [hk _ (by omega) (by omega)]; exact hc.old x hx, ⟨c, by rw [hk _ (by omega) (by omega)]; exact b1, b2⟩, by rw [hk _ (by omega) (by omega)]; exact hc.mark, by rw [hk _ (by omega) (by omega)]; exact hc.loop, L', d1.same fun b hb hlt => hk b hlt ?_, d2, d3, fun x hx => ⟨(d4 x hx).1, by have := (d4 x hx).2; omega⟩⟩
 rcases hb with rfl | rfl | rfl | ⟨x, hx, rfl⟩
 ·omega
 ·omega
 ·omega
 ·have := d4 x hx; omega
set_option maxHeartbeats 1000000 in
theorem cp_round {n0 : Nat} {h0 g : Heap} {R W : Set'} {tr : Tr V} {bd : Nat} {L : DL} {D : DS} {l : kQ} {e : V × V × Nat} {x : Nat} (hn0 : h0.n = n0) (hd : DiskAt h0 bd L D) (hc : CpAt n0 h0 tr D l g) (t3 : tr.get 3 = some (.ptr (some (n0 + 4, 0)))) (hn : n0 + 9 ≤ g.n) (he : e.1 = .int .i64 x) (hx : D.pe x ≠ []) (hnx : cpT l x = false) (hR : ∀ b, R b) (hW : ∀ b, n0 ≤ b → W b) :
  SY ⟨Try.prog, true⟩ (n0 + 7) [.int .i64 x, .slice (some (L.pb x, 0)) (D.pe x).length (D.pe x).length false] g R W fun v g' => v = .bool true ∧ CpAt n0 h0 tr D (l ++ [e]) g' ∧ g'.get (n0 + 8) = g.get (n0 + 8) ∧ g.n ≤ g'.n := by
 refine SY.go hm hc.loop (hR _) (hW _ (by omega)) rfl ir28_a0_eq ir28_b0_eq ?_
 have hxn : x < D.n := Nat.lt_of_not_le fun h => hx (hd.out x h)
 obtain ⟨es, ck, m1, m2, m3⟩ := hd.m
 obtain ⟨u1, u2, u3, u4⟩ := m3.blk x hx
 have lu := Heap.lt_of_get u1
 have few := hd.few x
 have hp0 := List.length_pos_iff.2 hx
 have hfl := flat_len (hd.pe x)
 simp -implicitDefEqProofs (disch := first | omega | (simp -implicitDefEqProofs only [szs, ne_eq] <;> omega) | fail) only [go_sem, seval, ↓reduceIte, ir28_a0]
 refine ⟨_, hc.loop, rfl, ?_⟩
 obtain ⟨c, b1, b2, b3⟩ := hc.box
 obtain ⟨g1, eg⟩ : ∃ g1, g1 = g.set (n0 + 7) (O.loop ⟨.busy, none, ⟨36, tr⟩, [26, 27], (rc28 0).1, (rc28 0).2, n0 + 6⟩) := ⟨_, rfl⟩
 have n1 : g1.n = g.n := by rw [eg]; rfl
 have k1 : ∀ b, b ≠ n0 + 7 → g1.get b = g.get b := fun b hb => by rw [eg]; exact qB (by omega) hb _
 obtain ⟨L', d1, d2, d3, d4⟩ := hc.disk
 have d1' : DiskAt g1 (n0 + 3) L' (cpD D l) := d1.same fun b hb _ => k1 b (by
  rcases hb with rfl | rfl | rfl | ⟨y, hy, rfl⟩
  ·omega
  ·omega
  ·omega
  ·have := d4 y hy; omega)
 have hl7 : g1.get (n0 + 7) = some (O.loop ⟨.busy, none, ⟨36, tr⟩, [26, 27], (rc28 0).1, (rc28 0).2, n0 + 6⟩) := by rw [eg]; exact qF (by omega) rfl _
 have b1' : g1.get (n0 + 4) = some (.cells c 24) := by rw [k1 _ (by omega)]; exact b1
 have u1' : g1.get (L.pb x) = some (.cells (Blk.of (D.pe x).flatten) 101) := by rw [k1 _ (by omega), hc.old _ (by omega)]; exact u1
 rw [← eg]
 obtain ⟨cd, e1, e2, e3, e4, e5, e6⟩ := d1'.d
 obtain ⟨es', ck', f1, f2, f3⟩ := d1'.m
 rw [d3] at e5 f1
 have hR4 := hR (n0 + 4)
 have hR3 := hR (n0 + 3)
 simp -implicitDefEqProofs (disch := first | omega | (simp -implicitDefEqProofs only [szs, ne_eq] <;> omega) | fail) only [go_sem, seval, ↓reduceIte, ir28_b0, t3, b1', b2, b3, e1, e2, e5]
 refine qN.of (R' := fun b => b = L.pb x) (W' := fun _ => False) (clone_ok (R := fun b => b = L.pb x) (W := fun _ => False) u1' (by rw [jB, hfl]; omega) hp0 few rfl) ?_
 rintro w g2 ⟨rfl, eg2⟩
 have hgs : (Blk.of (D.pe x).flatten).gets 0 ((D.pe x).length * 128) = (D.pe x).flatten := xK _ hfl.symm
 rw [hgs] at eg2
 have n2 : g2.n = g1.n + 2 := by rw [eg2]; simp
 have k2 : ∀ b, b < g1.n → g2.get b = g1.get b := fun b hb => by rw [eg2, qC (by simp; omega), qC (by omega)]
 have c2 : g2.get (g1.n + 1) = some (.cells (Blk.of (D.pe x).flatten) 101) := by rw [eg2]; exact qH rfl _
 obtain ⟨es2, ck2, hu, v1, v2, v3⟩ := upd_int (P := Try.prog) (t := 78) Try.underlying78 Try.underlying3 (h := g2) (r := n0 + 2) (es := es') (ck := ck') (by rw [k2 _ (by omega)]; exact f1) f2 x (.slice (some (g1.n + 1, 0)) (D.pe x).length (D.pe x).length false)
 have hW2 := hW (n0 + 2) (by omega)
 have hR2 := hR (n0 + 2)
 simp -implicitDefEqProofs (disch := first | omega | (simp -implicitDefEqProofs only [szs, ne_eq] <;> omega) | fail) only [go_sem, seval, ↓reduceIte, hu, hW2]
 have hkey : jC e.1 = (x : Int) := by rw [he]; rfl
 have hcpD : { (cpD D l) with pe := fun y => if y = x then D.pe x else (cpD D l).pe y } = cpD D (l ++ [e]) := by
  show DS.mk D.n D.fl (fun y => if y = x then D.pe x else if cpT l y = true then D.pe y else []) D.wr = DS.mk D.n D.fl (fun y => if cpT (l ++ [e]) y = true then D.pe y else []) D.wr
  congr 1
  funext y
  simp only [cpT_snoc, hkey]
  by_cases hy : y = x
  ·subst hy; simp
  ·have : ¬ (x : Int) = y := by omega
   simp [hy, this]
 have hnew := d1'.fill (h' := g2.set (n0 + 2) (O.map es2 ck2)) (s := x) (nb := g1.n + 1) (ll := D.pe x) hxn hx (hd.pe x) few (by omega) (fun b h1 h2 => by rw [d3] at h2; rw [qB (by omega) h2]; exact k2 b h1) ⟨es', ck', es2, ck2, by rw [d3]; exact f1, by rw [d3]; exact qF (by omega) rfl _, v1, v2⟩ (by rw [qB (by omega) (by omega)]; exact c2)
 rw [hcpD] at hnew
 have kf : ∀ b, b ≠ n0 + 2 → b ≠ n0 + 7 → ((g2.set (n0 + 2) (O.map es2 ck2)).set (n0 + 7) (O.loop ⟨.ready, none, ⟨36, tr⟩, [26, 27], (rc28 0).1, (rc28 0).2, n0 + 6⟩)).get b = g2.get b := fun b h1 h2 => by
  rw [qB (by rw [Heap.n_set]; omega) h2, qB (by omega) h1]
 have k02 : ∀ b, b < g.n → b ≠ n0 + 7 → g2.get b = g.get b := fun b h1 h2 => by rw [k2 b (by omega), k1 b h2]
 have hft : ∀ b, zZ (n0 + 3) (L'.write x (g1.n + 1)) (cpD D (l ++ [e])) b → b ≠ n0 + 7 := fun b hb => by
  rcases hb with rfl | h | h | ⟨y, hy, rfl⟩
  ·omega
  ·have h : b = L'.fb := h
   omega
  ·have h : b = L'.mb := h
   omega
  ·simp only [DL.write]
   split
   ·omega
   ·rename_i hyx
    have := d4 y (by rw [← hcpD] at hy; simpa [hyx] using hy)
    omega
 have l7 : n0 + 7 < (g2.set (n0 + 2) (O.map es2 ck2)).n := by rw [Heap.n_set]; omega
 have hnew2 := hnew.same (h' := (g2.set (n0 + 2) (O.map es2 ck2)).set (n0 + 7) (O.loop ⟨.ready, none, ⟨36, tr⟩, [26, 27], (rc28 0).1, (rc28 0).2, n0 + 6⟩)) fun b hb _ => qB l7 (hft b hb) _
 have hfin : CpAt n0 h0 tr D (l ++ [e]) ((g2.set (n0 + 2) (O.map es2 ck2)).set (n0 + 7) (O.loop ⟨.ready, none, ⟨36, tr⟩, [26, 27], (rc28 0).1, (rc28 0).2, n0 + 6⟩)) := by
  refine ⟨by rw [Heap.n_set, Heap.n_set]; omega, fun y hy => ?_, ⟨c, ?_, b2, b3⟩, ?_, qF l7 rfl _, L'.write x (g1.n + 1), hnew2, d2, d3, fun y hy => ?_⟩
  ·rw [kf y (by omega) (by omega), k02 y (by have := hc.n; omega) (by omega)]; exact hc.old y hy
  ·rw [kf _ (by omega) (by omega), k02 _ (by omega) (by omega)]; exact b1
  ·rw [kf _ (by omega) (by omega), k02 _ (by omega) (by omega)]; exact hc.mark
  ·simp only [DL.write]
   rw [Heap.n_set, Heap.n_set]
   split
   ·omega
   ·rename_i hyx
    have := d4 y (by rw [← hcpD] at hy; simpa [hyx] using hy)
    omega
 refine ⟨by (try simp only [List.not_mem_nil, or_false, false_or, and_false, false_implies, implies_true, not_false_eq_true, List.mem_cons, and_true]; try and_intros; all_goals (try trivial); all_goals (intro b hb; first | omega | (intro hc; first | omega | (rcases hb with hb | hb <;> first | omega)))), ?_, ⟨.busy, none, ⟨36, tr⟩, [26, 27], (rc28 0).1, (rc28 0).2, n0 + 6⟩, by rw [k2 _ (by omega)]; exact hl7, rfl, hfin, by rw [k02 _ (by omega) (by omega)], by omega⟩
 and_intros
 all_goals (intros; first | exact hR _ | exact (by assumption : False).elim)
theorem all_ok {h : Heap} {R W : Set'} {m : Nat} : SF Try.prog 62 [.map (some m)] h R W fun v h' => v = .func 84 [] [.ptr (some (h.n, 0))] ∧ h' = h.push (.cells (Blk.of [.map (some m)]) 78) := by
 refine SF.go hm Try.func62 ir62_eq ?_
 simp -implicitDefEqProofs (disch := omega) only [go_sem, seval, ↓reduceIte, reduceCtorEq, ir62]
noncomputable def ir84_rest : LC := match ir84_l0 with
 | .seq _ r => r
 | _ => .skip
theorem ir84_l0_eq : ir84_l0 = .seq (.ops [⟨some 7, Op.next (Operand.tmp 6) false, none⟩, ⟨some 8, Op.extract (Operand.tmp 7) 0, none⟩]) ir84_rest := rfl
set_option maxHeartbeats 1000000 in
theorem cp_dem {n0 kb : Nat} {h0 h1 : Heap} {tr : Tr V} {bd : Nat} {L : DL} {D : DS} {R W : Set'} (hn0 : h0.n = n0) (hd : DiskAt h0 bd L D) (hc : CpAt n0 h0 tr D [] h1) (hn1 : h1.n = n0 + 8) (t3 : tr.get 3 = some (.ptr (some (n0 + 4, 0)))) (hkb : kb = n0 + 5) (hk : ∃ c, h1.get kb = some (.cells c 78) ∧ c.size = 1 ∧ c.get 0 = .map (some L.mb)) (hR : ∀ b, R b) (hW : ∀ b, n0 ≤ b → W b) :
  SF ⟨Try.prog, true⟩ 84 [.yield (n0 + 7), .ptr (some (kb, 0))] h1 R W fun _ g => ∃ l, CpAt n0 h0 tr D l g ∧ ∀ x, (cpD D l).pe x = D.pe x := by
 obtain ⟨c, g1, g2, g3⟩ := hk
 obtain ⟨es, ck, m1, m2, m3⟩ := hd.m
 have lm := Heap.lt_of_get m1
 have gm' : h1.get L.mb = some (.map es ck) := by rw [hc.old _ (by omega)]; exact m1
 have hRk := hR kb
 have hRm := hR L.mb
 have hR8 := hR (n0 + 8)
 have hW8 := hW (n0 + 8) (by omega)
 refine SF.go hm Try.func84 ir84_eq ?_
 simp -implicitDefEqProofs (disch := omega) only [go_sem, seval, ↓reduceIte, reduceCtorEq, ir84, g1, g2, g3, rangeV, gm', hRk, hRm, hn1]
 refine kE.inv hm (fun k f g => f.mks = [] ∧ f.tm.n = 17 ∧ f.tm.get 0 = some (.yield (n0 + 7)) ∧ f.tm.get 6 = some (.ptr (some (n0 + 8, 0))) ∧ n0 + 9 ≤ g.n ∧
  ∃ l seen, Seen es seen l ∧ l.length + k = es.length ∧ g.get (n0 + 8) = some (.iter (some L.mb) ck seen ck) ∧ CpAt n0 h0 tr D l g) es.length ?_ ?_
 ·refine ⟨rfl, rfl, by simp -implicitDefEqProofs (disch := omega) only [go_sem, seval, ↓reduceIte], by simp -implicitDefEqProofs (disch := omega) only [go_sem, seval, ↓reduceIte, reduceCtorEq], by simp; omega, [], [], Seen.nil es, by simp, ?_, hc.keep (by simp) fun b hb _ => qC (by omega) _⟩
  rw [qH (by omega)]
 rintro k ⟨⟨m, tr'⟩, mks⟩ g ⟨hmk, hn, t0, t6, hgn, l, seen, hs, hlk, hit, hcg⟩
 simp only [Tm.kL] at hmk hn t0 t6
 subst hmk hn
 have hgr : g.get L.mb = some (.map es ck) := by rw [hcg.old _ (by omega)]; exact m1
 simp -implicitDefEqProofs (disch := omega) only [go_sem, seval, ↓reduceIte, ir84_l0_eq, t6, SNext, hit, hgr, hRm, hR8, hW8]
 refine ⟨?_, ?_, ?_⟩
 ·cases es with
  | nil => exact .inr (.inl rfl)
  | cons e es => exact .inr (.inr ⟨e, by simp, m2.ok.lt e (by simp)⟩)
 ·intro hall
  have hp := hs.last m2.ok fun e he => hall e he (m2.ok.lt e he)
  simp -implicitDefEqProofs (disch := omega) only [go_sem, seval, ↓reduceIte, ir84_rest, ir84_l0]
  refine ⟨l, hcg, fun x => ?_⟩
  simp only [cpD]
  split
  ·rfl
  ·rename_i hx
   by_cases hpx : D.pe x = []
   ·exact hpx.symm
   ·obtain ⟨e, he, hk⟩ := List.mem_map.1 ((m3.key m2 x).2 hpx)
    exact absurd (List.any_eq_true.2 ⟨e, hp.mem_iff.2 he, decide_eq_true hk⟩) hx
 ·intro e he hns
  have hs' := hs.step he hns
  have hle := hs'.length
  rw [List.length_append, List.length_singleton] at hle
  have hE := entry_at (g := g.set (n0 + 8) (.iter (some L.mb) ck (seen ++ [e.2.2]) ck)) (b := n0 + 8) (qF (by omega) rfl _) (by rw [qB (by omega) (by omega)]; exact hgr) m2.ok he
  obtain ⟨x, e1, hx1, e2⟩ := m3.mem m2 he
  rw [e1, e2] at hE
  have hnx : cpT l x = false := by
   rw [Bool.eq_false_iff]
   intro ht
   obtain ⟨e', he', hk⟩ := List.any_eq_true.1 ht
   have hk : jC e'.1 = (x : Int) := of_decide_eq_true hk
   have : e' = e := nodup_inj m2.keys (hs.sub e' he') he (by rw [hk, e1]; rfl)
   subst this
   exact hns (by rw [← hs.stamps]; exact List.mem_map.2 ⟨_, he', rfl⟩)
  simp -implicitDefEqProofs (disch := omega) only [go_sem, seval, ↓reduceIte, reduceCtorEq, ir84_rest, ir84_l0, hE, t0, t6, hRm, hR8]
  refine GYield.of (cp_round hn0 hd (hcg.keep (by simp) fun b hb hne => qB (by omega) hne _) t3 (by simp; omega) e1 hx1 hnx (fun b => .inr (hR b)) (fun b hb => .inr (hW b hb))) ?_
  rintro v g' ⟨rfl, hc', hit', hn'⟩
  rw [qF (by omega) rfl] at hit'
  simp only [Heap.n_set] at hn'
  simp -implicitDefEqProofs (disch := omega) only [go_sem, seval, ↓reduceIte, reduceCtorEq, t0, t6]
  exact ⟨k - 1, by omega, by omega, l ++ [e], _, hs', by simp; omega, hit', hc'⟩
end Go.Proofs.Ytakgjjbmniilhaa
namespace Go.Proofs.Ytakgjjbmniilhaa
open Go Go.Vm
attribute [-go_sem] qQ
theorem cp_range {n0 : Nat} {h0 g : Heap} {R W : Set'} {Q' : Ex → Fr → Heap → Prop} {t : List It} {bd : Nat} {L L0 : DL} {D : DS} (hn0 : h0.n = n0) (hd : DiskAt h0 bd L D) (hR : ∀ b, R b) (hW : ∀ b, n0 ≤ b → W b) (gn : g.n = n0 + 6) (hold : ∀ b, b < n0 → g.get b = h0.get b)
  (hb : ∃ c, g.get (n0 + 4) = some (.cells c 24) ∧ c.size = 1 ∧ c.get 0 = .ptr (some (n0 + 3, 0))) (hd0 : DiskAt g (n0 + 3) L0 (cpD D [])) (hL0 : L0.fb = n0 + 1 ∧ L0.mb = n0 + 2) (hkb : ∃ c, g.get (n0 + 5) = some (.cells c 78) ∧ c.size = 1 ∧ c.get 0 = .map (some L.mb))
  {tr : Tr V} (hk : ∀ g3 L', n0 + 8 ≤ g3.n → (∀ b, b < n0 → g3.get b = h0.get b) → (∃ c, g3.get (n0 + 4) = some (.cells c 24) ∧ c.size = 1 ∧ c.get 0 = .ptr (some (n0 + 3, 0))) → g3.get (n0 + 6) = some (.deferred true) → DiskAt g3 (n0 + 3) L' D → (∀ b, zZ (n0 + 3) L' D b → n0 ≤ b ∧ b < g3.n ∧ b ≠ n0 + 6) → GO ⟨Try.prog, true⟩ R W none Q' t ⟨⟨36, tr⟩, [n0 + 6]⟩ g3)
  (t3 : tr.get 3 = some (.ptr (some (n0 + 4, 0)))) (t25 : tr.get 25 = some (.func 84 [] [.ptr (some (n0 + 5, 0))])) : yH ⟨Try.prog, true⟩ R W none Q' (Operand.tmp 25) #[26, 27] (rc28 0).1 (rc28 0).2 t ⟨⟨36, tr⟩, []⟩ g := by
 refine yH.outer (k := 84) (xs := []) (ys := [.ptr (some (n0 + 5, 0))]) (by simp -implicitDefEqProofs (disch := omega) only [go_sem, seval, t25]) ca_84 ?_
 obtain ⟨c, b1, b2⟩ := hb
 obtain ⟨ck, k1, k2⟩ := hkb
 rw [gn]
 refine SF.mono (cp_dem (n0 := n0) (h0 := h0) (kb := n0 + 5) (tr := tr) hn0 hd ⟨by simp; omega, fun x hx => by rw [qC (by simp; omega), qC (by omega)]; exact hold x hx, ⟨c, by rw [qC (by simp; omega), qC (by omega)]; exact b1, b2⟩, by rw [qC (by simp; omega), qH (by omega)], by rw [qH (by simp; omega)], L0, hd0.old fun b hb => by rw [qC (by simp; omega), qC (by omega)], hL0.1, hL0.2, fun x hx => absurd rfl hx⟩ (by simp; omega) t3 rfl ⟨ck, by rw [qC (by simp; omega), qC (by omega)]; exact k1, k2⟩ hR hW) ?_
 rintro v g2 ⟨l, hc, hpe⟩
 have n := hc.n
 obtain ⟨L', d1, d2, d3, d4⟩ := hc.disk
 have hcd : cpD D l = D := by
  show DS.mk D.n D.fl (cpD D l).pe D.wr = D
  rw [show (cpD D l).pe = D.pe from funext hpe]
 rw [hcd] at d1 d4
 have l7 : n0 + 7 < g2.n := by omega
 refine ⟨_, hc.loop, by simp, hW _ (by omega), ?_⟩
 have hf : ∀ b, zZ (n0 + 3) L' D b → n0 ≤ b ∧ b < g2.n ∧ b ≠ n0 + 6 ∧ b ≠ n0 + 7 := fun b hb => by
  rcases hb with rfl | rfl | rfl | ⟨y, hy, rfl⟩
  ·omega
  ·omega
  ·omega
  ·have := d4 y hy; omega
 obtain ⟨c', x1, x2⟩ := hc.box
 exact hk _ L' (by rw [Heap.n_set]; omega) (fun b hb => by rw [qB l7 (by omega)]; exact hc.old b hb) ⟨c', by rw [qB l7 (by omega)]; exact x1, x2⟩ (by rw [qB l7 (by omega)]; exact hc.mark) (d1.same fun b hb _ => qB l7 (hf b hb).2.2.2 _) (fun b hb => ⟨(hf b hb).1, by rw [Heap.n_set]; exact (hf b hb).2.1, (hf b hb).2.2.1⟩)
set_option maxHeartbeats 1000000 in
theorem copy_ok {h : Heap} {R W : Set'} {bd : Nat} {L : DL} {D : DS} (hd : DiskAt h bd L D) (hR : ∀ b, R b) :
  SF ⟨Try.prog, true⟩ 28 [.ptr (some (bd, 0))] h R W fun v h' => ∃ bd' L', v = .ptr (some (bd', 0)) ∧ DiskAt h' bd' L' D ∧ (∀ b, zZ bd' L' D b → h.n ≤ b ∧ b < h'.n) ∧ h.n ≤ h'.n ∧ ∀ b, b < h.n → h'.get b = h.get b := by
 obtain ⟨c, h1, sz, ro, c0, c1, c2⟩ := hd.d
 obtain ⟨f0, f1, fs, fro, fg⟩ := hd.f
 have hp := hd.pos
 have hR1 := hR bd
 have hlt1 := Heap.lt_of_get h1
 have hN := zA
 refine SF.go hm Try.func28 ir28_eq ?_
 simp -implicitDefEqProofs (disch := first | omega | (simp -implicitDefEqProofs only [szs, ne_eq] <;> omega) | fail) only [go_sem, seval, ↓reduceIte, reduceCtorEq, ir28]
 refine qK.of (there_ok hd (.inr hR1)).any ?_
 rintro w h' ⟨rfl, rfl⟩
 simp -implicitDefEqProofs (disch := first | omega | (simp -implicitDefEqProofs only [szs, ne_eq] <;> omega) | fail) only [go_sem, seval, ↓reduceIte, reduceCtorEq, h1, c0]
 refine qN.of (R' := fun b => b = L.fb) (W' := fun _ => False) (clone_ok (ce := 101) f1 (by omega) (by omega) (by omega) rfl) ?_
 rintro w h2 ⟨rfl, eh2⟩
 have n2 : h2.n = h'.n + 2 := by rw [eh2]; simp
 have k2 : ∀ b, b < h'.n → h2.get b = h'.get b := fun b hb => by rw [eh2, qC (by simp; omega), qC (by omega)]
 have c2' : h2.get (h'.n + 1) = some (.cells (Blk.of (f0.gets 0 (D.n * 128))) 101) := by rw [eh2]; exact qH (by simp) _
 have h1' := (k2 bd hlt1).trans h1
 clear eh2
 simp -implicitDefEqProofs (disch := first | omega | (simp -implicitDefEqProofs only [szs, ne_eq] <;> omega) | fail) only [go_sem, seval, ↓reduceIte, reduceCtorEq, h1', c1, c2, hR1]
 obtain ⟨g, eg, gn, hold, gm, gs, gb, g1⟩ : ∃ g, ((((h2.push (O.map [] 0)).push (O.cells (Blk.of [V.slice (some (h'.n + 1, 0)) D.n D.n false, V.map (some h2.n), V.int IntKind.i64 D.wr]) 80)).push (O.cells (Blk.of [V.ptr none]) 24)).set (h2.n + 1 + 1) (O.cells ((Blk.of [V.ptr none]).set 0 (V.ptr (some (h2.n + 1, 0)))) 24)) = g ∧ g.n = h'.n + 5 ∧ (∀ b, b < h'.n → g.get b = h'.get b) ∧ g.get (h'.n + 2) = some (.map [] 0) ∧ g.get (h'.n + 3) = some (O.cells (Blk.of [V.slice (some (h'.n + 1, 0)) D.n D.n false, V.map (some (h'.n + 2)), V.int IntKind.i64 D.wr]) 80) ∧ (∃ c, g.get (h'.n + 4) = some (.cells c 24) ∧ c.size = 1 ∧ c.get 0 = .ptr (some (h'.n + 3, 0))) ∧ g.get (h'.n + 1) = some (.cells (Blk.of (f0.gets 0 (D.n * 128))) 101) := by
  refine ⟨_, rfl, by simp; omega, fun b hb => ?_, ?_, ?_, ⟨_, by rw [n2]; exact qF (by simp; omega) (by omega) _, rfl, ?_⟩, ?_⟩
  ·rw [qB (by simp) (by omega), qC (by simp; omega), qC (by simp; omega), qC (by omega), k2 b hb]
  ·rw [qB (by simp) (by omega), qC (by simp; omega), qC (by simp; omega), qH (by omega)]
  ·rw [qB (by simp) (by omega), qC (by simp; omega), qH (by simp; omega), n2]
  ·rw [w_bset_eq rfl]
  ·rw [qB (by simp) (by omega), qC (by simp; omega), qC (by simp; omega), qC (by omega), c2']
 rw [eg]
 refine ⟨by (try simp only [List.not_mem_nil, or_false, false_or, and_false, false_implies, implies_true, not_false_eq_true, List.mem_cons, and_true, true_and]; try and_intros; all_goals (try trivial); all_goals (intro b hb; first | omega | (intro hc; first | omega | (rcases hb with hb | hb <;> first | omega)))), ?_, ?_⟩
 ·and_intros
  all_goals (intros; first | exact .inr (hR _) | exact (by assumption : False).elim | exact .inl (by omega))
 have h1g := (hold bd hlt1).trans h1
 simp -implicitDefEqProofs (disch := first | omega | (simp -implicitDefEqProofs only [szs, ne_eq] <;> omega) | fail) only [go_sem, seval, n2]
 refine qK.of all_ok.any ?_
 rintro v g2 ⟨rfl, eg2⟩
 have n3 : g2.n = h'.n + 6 := by rw [eg2]; simp; omega
 have k3 : ∀ b, b < g.n → g2.get b = g.get b := fun b hb => by rw [eg2]; exact qC (by omega) _
 have c3 : g2.get (h'.n + 5) = some (.cells (Blk.of [.map (some L.mb)]) 78) := by rw [eg2]; exact qH (by omega) _
 rw [gn]
 simp -implicitDefEqProofs (disch := first | omega | (simp -implicitDefEqProofs only [szs, ne_eq] <;> omega) | fail) only [go_sem, seval, ↓reduceIte, reduceCtorEq]
 have hd0 : DiskAt g2 (h'.n + 3) (crL h'.n D) (cpD D []) := DiskAt.crashed (f := D.fl) hp ⟨_, by rw [k3 _ (by omega)]; exact gs, rfl, rfl, rfl, rfl, rfl⟩ ⟨_, by rw [k3 _ (by omega)]; exact g1, by rw [jB, Blk.qJ], rfl, fun s hs => ?_⟩ (by rw [k3 _ (by omega)]; exact gm) hd.fl
 ·refine cp_range (n0 := h'.n) (L0 := crL h'.n D) rfl hd (fun b => .inr (hR b)) (fun b hb => .inl hb) n3 (fun b hb => by rw [k3 b (by omega)]; exact hold b hb) ?_ hd0 ⟨rfl, rfl⟩ ⟨_, c3, rfl, rfl⟩ ?_ (by simp -implicitDefEqProofs (disch := first | omega | (simp -implicitDefEqProofs only [szs, ne_eq] <;> omega) | fail) only [go_sem, seval, ↓reduceIte, reduceCtorEq]) (by simp -implicitDefEqProofs (disch := first | omega | (simp -implicitDefEqProofs only [szs, ne_eq] <;> omega) | fail) only [go_sem, seval, ↓reduceIte, reduceCtorEq])
  ·obtain ⟨cb, x1, x2⟩ := gb
   exact ⟨cb, by rw [k3 _ (by omega)]; exact x1, x2⟩
  ·intro g3 L' n4 hold4 ⟨cb, x1, x2, x3⟩ hmk hdk hft
   have hlm := Heap.lt_of_get hmk
   simp -implicitDefEqProofs (disch := first | omega | (simp -implicitDefEqProofs only [szs, ne_eq] <;> omega) | fail) only [go_sem, seval, ↓reduceIte, reduceCtorEq, x1, x2, x3, takeH, hmk]
   exact ⟨.inl (by omega), h'.n + 3, L', rfl, hdk.same fun b hb _ => qB hlm (hft b hb).2.2 _, fun b hb => ⟨(hft b hb).1, (hft b hb).2.1⟩, by omega, fun b hb => by rw [qB hlm (by omega)]; exact hold4 b hb⟩
 ·have hle := hd.fl s hs
  rw [← fg s hs]
  refine Blk.jH (fun j hj => ?_) (by rw [Blk.qJ])
  rw [Blk.qJ] at hj
  rw [Blk.get_of _ _ (by rw [Blk.qJ]; omega), List.getD_eq_getElem?_getD, Blk.qM _ _ _ _ (by omega), List.getD_eq_getElem?_getD, Blk.qM _ _ _ _ hj, Nat.zero_add]
end Go.Proofs.Ytakgjjbmniilhaa
