/- Dirty: the sectors of which writes are pending, in ascending order. -/
import Derived.Test.YtgkcbpagdfdpdaaR3
import Derived.Test.YtgkcbpagdfdpdaaS2
set_option linter.unusedVariables false
set_option linter.unusedSimpArgs false
set_option linter.unusedSimpArgs false
set_option maxRecDepth 100000
set_option linter.unusedVariables false
set_option linter.unusedSimpArgs false
namespace Go.Proofs.Ytgkcbpagdfdpdaa
open Go Go.Vm
attribute [-go_sem] sz_67
theorem asc_ext : ∀ {a b : List Int}, a.Pairwise (· < ·) → b.Pairwise (· < ·) → (∀ x, x ∈ a ↔ x ∈ b) → a = b
  | [], [], _, _, _ => rfl
  | [], y :: b, _, _, h => by have := (h y).2 (by simp); cases this
  | x :: a, [], _, _, h => by have := (h x).1 (by simp); cases this
  | x :: a, y :: b, ha, hb, h => by
    rw [List.pairwise_cons] at ha hb
    have hxy : x = y := by
      have h1 := (h x).1 (by simp)
      have h2 := (h y).2 (by simp)
      rcases List.mem_cons.1 h1 with e | h1
      · exact e
      · rcases List.mem_cons.1 h2 with e | h2
        · exact e.symm
        · have := ha.1 _ h2; have := hb.1 _ h1; omega
    subst hxy
    rw [asc_ext ha.2 hb.2 fun z => ?_]
    constructor
    · intro hz
      rcases List.mem_cons.1 ((h z).1 (by simp [hz])) with e | e
      · have := ha.1 _ hz; omega
      · exact e
    · intro hz
      rcases List.mem_cons.1 ((h z).2 (by simp [hz])) with e | e
      · have := hb.1 _ hz; omega
      · exact e
/-- The sectors of which writes are pending. -/
def DS.dirty (D : DS) : List Nat := (List.range D.n).filter fun s => !(D.pe s).isEmpty
theorem mem_dirty {D : DS} {s : Nat} : s ∈ D.dirty ↔ s < D.n ∧ D.pe s ≠ [] := by
  simp [DS.dirty]
theorem keys_dirty {h : Heap} {bd : Nat} {L : DL} {D : DS} {es : Ents} {ck : Nat} (hp : PendAt h bd L D es) (hi : IMap es ck) (ho : ∀ s, D.n ≤ s → D.pe s = []) : keysSorted es = D.dirty.map fun (s : Nat) => (s : Int) := by
  have hkk : (es.map fun e => intOf e.1) = es.map fun e => keyI e.1 := List.map_congr_left fun e he => by
    obtain ⟨k, hk⟩ := hi.ints e he
    rw [hk]; rfl
  have hperm : (keysSorted es).Perm (es.map fun e => keyI e.1) := by
    unfold keysSorted
    rw [← hkk]
    exact List.mergeSort_perm _ _
  apply asc_ext
  · have h1 : (keysSorted es).Pairwise (fun x y => x ≤ y) := (List.pairwise_mergeSort (le := fun x y => decide (x ≤ y)) (fun a b c h1 h2 => by simp at *; omega) (fun a b => by simp; omega) _).imp fun h => by simpa using h
    have h2 : (keysSorted es).Nodup := hperm.nodup_iff.2 hi.keys
    exact (h1.and h2).imp fun ⟨a, b⟩ => by omega
  · rw [List.pairwise_map]
    exact (List.Pairwise.filter _ List.pairwise_lt_range).imp fun h => by omega
  · intro x
    rw [hperm.mem_iff]
    constructor
    · intro hx
      obtain ⟨e, he, rfl⟩ := List.mem_map.1 hx
      obtain ⟨y, e1, e2, _⟩ := hp.mem hi he
      rw [e1]
      refine List.mem_map.2 ⟨y, mem_dirty.2 ⟨?_, e2⟩, rfl⟩
      exact Nat.lt_of_not_le fun h => e2 (ho y h)
    · intro hx
      obtain ⟨y, hy, rfl⟩ := List.mem_map.1 hx
      exact (hp.key hi y).2 (mem_dirty.1 hy).2
theorem dirty_len (D : DS) : D.dirty.length ≤ D.n := by
  unfold DS.dirty
  have := List.length_filter_le (fun s => !(D.pe s).isEmpty) (List.range D.n)
  simpa using this
theorem keys_len {h : Heap} {bd : Nat} {L : DL} {D : DS} {es : Ents} {ck : Nat} (hp : PendAt h bd L D es) (hi : IMap es ck) (ho : ∀ s, D.n ≤ s → D.pe s = []) : es.length = D.dirty.length := by
  have := keys_dirty hp hi ho
  rw [← keysSorted_length es, this, List.length_map]
theorem dirty_ok {h : Heap} {R W : Set'} {bd : Nat} : SF Try.prog 40 [.ptr (some (bd, 0))] h R W fun v h' => v = .func 47 [] [.ptr (some (h.n, 0))] ∧ h' = h.push (.cells (Blk.of [.ptr (some (bd, 0))]) 26) := by
  refine SF.go hm Try.func40 ir40_eq ?_
  simp -implicitDefEqProofs (disch := (first | omega | (simp -implicitDefEqProofs only [szs, ne_eq] <;> omega) | fail)) only [go_sem, Nat.reduceAdd, Nat.reduceSub, Nat.reduceMul, Nat.reduceLT, Nat.reduceMod, Nat.reduceDiv, Nat.reduceEqDiff, Nat.reduceBEq, Nat.reduceLeDiff, ↓reduceIte, reduceCtorEq, Int.reduceAdd, Int.reduceSub, Int.reduceLT, Int.reduceLE, Int.reduceBEq, Int.reduceEq, Int.reduceToNat, ir40]
theorem keysf_ok {h : Heap} {R W : Set'} {m : Nat} : SF Try.prog 49 [.map (some m)] h R W fun v h' => v = .func 54 [] [.ptr (some (h.n, 0))] ∧ h' = h.push (.cells (Blk.of [.map (some m)]) 52) := by
  refine SF.go hm Try.func49 ir49_eq ?_
  simp -implicitDefEqProofs (disch := (first | omega | (simp -implicitDefEqProofs only [szs, ne_eq] <;> omega) | fail)) only [go_sem, Nat.reduceAdd, Nat.reduceSub, Nat.reduceMul, Nat.reduceLT, Nat.reduceMod, Nat.reduceDiv, Nat.reduceEqDiff, Nat.reduceBEq, Nat.reduceLeDiff, ↓reduceIte, reduceCtorEq, Int.reduceAdd, Int.reduceSub, Int.reduceLT, Int.reduceLE, Int.reduceBEq, Int.reduceEq, Int.reduceToNat, ir49]
set_option maxHeartbeats 1000000 in
theorem seq47 {h : Heap} {bd b1 l : Nat} {L : DL} {D : DS} {W : Set'} (I : Nat → Heap → Prop) (J : Heap → Prop) (hd : DiskAt h bd L D) (h1 : h.get b1 = some (.cells (Blk.of [.ptr (some (bd, 0))]) 26)) (hI0 : I 0 h) (hx : ∀ p g, I p g → DiskAt g bd L D ∧ g.get b1 = h.get b1 ∧ h.n ≤ g.n)
    (hkeep : ∀ p g g', I p g → g.n ≤ g'.n → (∀ b, b < g.n → g'.get b = g.get b) → I p g') (hW : ∀ b, W b → b < h.n)
    (hround : ∀ (p s : Nat) g, D.dirty[p]? = some s → I p g → SY ⟨Try.prog, true⟩ l [.int .i64 s, .int .i64 (D.pe s).length] g (fun _ => True) (fun b => h.n ≤ b ∨ W b) (fun v g' => (v = .bool true ∧ I (p + 1) g' ∨ v = .bool false ∧ J g') ∧ ∀ b, h.n ≤ b → b < g.n → g'.get b = g.get b)) :
    SF ⟨Try.prog, true⟩ 47 [.yield l, .ptr (some (b1, 0))] h (fun _ => True) W fun _ g => I D.dirty.length g ∨ J g := by
  have hp := hd.pos
  have hb1 := Heap.lt_of_get h1
  obtain ⟨c, d1, d2, d3, d4, d5, d6⟩ := hd.d
  obtain ⟨es, ck, m1, m2, m3⟩ := hd.m
  have hkd := keys_dirty m3 m2 hd.out
  have hkl := keys_len m3 m2 hd.out
  have hdl := dirty_len D
  have hmb := Heap.lt_of_get m1
  refine SF.go hm Try.func47 ir47_eq ?_
  simp -implicitDefEqProofs (disch := (first | omega | (simp -implicitDefEqProofs only [szs, ne_eq] <;> omega) | fail)) only [go_sem, Nat.reduceAdd, Nat.reduceSub, Nat.reduceMul, Nat.reduceLT, Nat.reduceMod, Nat.reduceDiv, Nat.reduceEqDiff, Nat.reduceBEq, Nat.reduceLeDiff, ↓reduceIte, reduceCtorEq, Int.reduceAdd, Int.reduceSub, Int.reduceLT, Int.reduceLE, Int.reduceBEq, Int.reduceEq, Int.reduceToNat, ir47, h1]
  refine GCall.of (there_ok hd trivial).any ?_
  rintro v h' ⟨rfl, rfl⟩
  simp -implicitDefEqProofs (disch := (first | omega | (simp -implicitDefEqProofs only [szs, ne_eq] <;> omega) | fail)) only [go_sem, Nat.reduceAdd, Nat.reduceSub, Nat.reduceMul, Nat.reduceLT, Nat.reduceMod, Nat.reduceDiv, Nat.reduceEqDiff, Nat.reduceBEq, Nat.reduceLeDiff, ↓reduceIte, reduceCtorEq, Int.reduceAdd, Int.reduceSub, Int.reduceLT, Int.reduceLE, Int.reduceBEq, Int.reduceEq, Int.reduceToNat, h1, d1, d2, d5]
  refine GCall.of keysf_ok.any ?_
  rintro v h2 ⟨rfl, rfl⟩
  have hK : KeysAt (h'.push (.cells (Blk.of [.map (some L.mb)]) 52)) h'.n L.mb es ck := ⟨⟨_, by simp -implicitDefEqProofs (disch := (first | omega | (simp -implicitDefEqProofs only [szs, ne_eq] <;> omega) | fail)) only [go_sem, Nat.reduceAdd, Nat.reduceSub, Nat.reduceMul, Nat.reduceLT, Nat.reduceMod, Nat.reduceDiv, Nat.reduceEqDiff, Nat.reduceBEq, Nat.reduceLeDiff, ↓reduceIte, reduceCtorEq, Int.reduceAdd, Int.reduceSub, Int.reduceLT, Int.reduceLE, Int.reduceBEq, Int.reduceEq, Int.reduceToNat]; rfl, rfl, rfl⟩, by rw [w_push_ne (by omega)]; exact m1, m2.ok, m2.ints, by omega⟩
  simp -implicitDefEqProofs (disch := (first | omega | (simp -implicitDefEqProofs only [szs, ne_eq] <;> omega) | fail)) only [go_sem, Nat.reduceAdd, Nat.reduceSub, Nat.reduceMul, Nat.reduceLT, Nat.reduceMod, Nat.reduceDiv, Nat.reduceEqDiff, Nat.reduceBEq, Nat.reduceLeDiff, ↓reduceIte, reduceCtorEq, Int.reduceAdd, Int.reduceSub, Int.reduceLT, Int.reduceLE, Int.reduceBEq, Int.reduceEq, Int.reduceToNat]
  generalize hhg : h'.push (.cells (Blk.of [.map (some L.mb)]) 52) = hh at *
  have hhn : hh.n = h'.n + 1 := by rw [← hhg]; simp
  have hho : ∀ b, b < h'.n → hh.get b = h'.get b := fun b hb => by rw [← hhg]; exact w_push_ne (by omega) _
  have hs : SF Try.prog 48 [.func 54 [] [.ptr (some (h'.n, 0))]] hh (fun b => b = h'.n ∨ b = L.mb) (fun _ => False) (fun v g => v = (sortedV hh es).1 ∧ g = (sortedV hh es).2) := ⟨_, _, ⟨rfl, rfl⟩, sorted_ok hK⟩
  refine GCall.of (((SF.any (M := ⟨Try.prog, true⟩) hs).foot (fun _ h => trivial) (fun _ h => h.elim))) ?_
  rintro v g0 ⟨hv0, hg0⟩
  obtain ⟨hlr, hgn0, hold0⟩ : LR g0 (fun b => h'.n ≤ b) v (D.dirty.map fun (s : Nat) => V.int .i64 s) ∧ hh.n ≤ g0.n ∧ ∀ b, b < hh.n → g0.get b = hh.get b := by
    have hkm : (keysSorted es).map (V.int .i64) = D.dirty.map fun (s : Nat) => V.int .i64 s := by rw [hkd, List.map_map]; rfl
    cases hes : es with
    | nil =>
      rw [hes] at hv0 hg0 hkl
      have hd0 : D.dirty = [] := List.length_eq_zero_iff.1 hkl.symm
      rw [hd0]
      subst hv0 hg0
      exact ⟨.inl ⟨rfl, .inl rfl⟩, Nat.le_refl _, fun _ _ => rfl⟩
    | cons e r =>
      have hsv : sortedV hh es = (.slice (some (hh.n, 0)) es.length es.length false, hh.push (.cells (Blk.of ((keysSorted es).map (.int .i64))) 3)) := by rw [hes]; rfl
      rw [hsv] at hv0 hg0
      subst hv0 hg0
      have hl2 : (D.dirty.map fun (s : Nat) => V.int .i64 s).length = es.length := by rw [List.length_map, hkl]
      refine ⟨.inr ⟨hh.n, 0, es.length, false, _, 3, by rw [hl2], by omega, w_push_eq rfl _, by rw [hkm, w_of_size, Nat.zero_add]; exact Nat.le_refl _, by rw [hkm]; exact gets_all _ rfl⟩, by simp, fun b hb => w_push_ne (by omega) _⟩
  have hlen := hlr.lenV Try.underlying80
  rw [List.length_map] at hlen
  simp -implicitDefEqProofs (disch := (first | omega | (simp -implicitDefEqProofs only [szs, ne_eq] <;> omega) | fail)) only [go_sem, Nat.reduceAdd, Nat.reduceSub, Nat.reduceMul, Nat.reduceLT, Nat.reduceMod, Nat.reduceDiv, Nat.reduceEqDiff, Nat.reduceBEq, Nat.reduceLeDiff, ↓reduceIte, reduceCtorEq, Int.reduceAdd, Int.reduceSub, Int.reduceLT, Int.reduceLE, Int.reduceBEq, Int.reduceEq, Int.reduceToNat, ↓hlen]
  have hI1 : I 0 g0 := hkeep 0 _ _ hI0 (by omega) fun b hb => by rw [hold0 b (by omega), hho b hb]
  refine GLoop.inv hm (fun k f g => f.mks = [] ∧ f.tm.n = 31 ∧ f.tm.get 0 = some (.yield l) ∧ f.tm.get 1 = some (.ptr (some (b1, 0))) ∧ f.tm.get 13 = some v ∧ f.tm.get 14 = some (.int .i64 D.dirty.length) ∧ ∃ p : Nat, p + k = D.dirty.length ∧ f.tm.get 15 = some (.int .i64 p) ∧ I p g ∧ LR g (fun b => h'.n ≤ b) v (D.dirty.map fun (s : Nat) => V.int .i64 s)) D.dirty.length ?_ ?_
  · exact ⟨rfl, rfl, by simp -implicitDefEqProofs (disch := (first | omega | (simp -implicitDefEqProofs only [szs, ne_eq] <;> omega) | fail)) only [go_sem, Nat.reduceAdd, Nat.reduceSub, Nat.reduceMul, Nat.reduceLT, Nat.reduceMod, Nat.reduceDiv, Nat.reduceEqDiff, Nat.reduceBEq, Nat.reduceLeDiff, ↓reduceIte, reduceCtorEq, Int.reduceAdd, Int.reduceSub, Int.reduceLT, Int.reduceLE, Int.reduceBEq, Int.reduceEq, Int.reduceToNat], by simp -implicitDefEqProofs (disch := (first | omega | (simp -implicitDefEqProofs only [szs, ne_eq] <;> omega) | fail)) only [go_sem, Nat.reduceAdd, Nat.reduceSub, Nat.reduceMul, Nat.reduceLT, Nat.reduceMod, Nat.reduceDiv, Nat.reduceEqDiff, Nat.reduceBEq, Nat.reduceLeDiff, ↓reduceIte, reduceCtorEq, Int.reduceAdd, Int.reduceSub, Int.reduceLT, Int.reduceLE, Int.reduceBEq, Int.reduceEq, Int.reduceToNat], by simp -implicitDefEqProofs (disch := (first | omega | (simp -implicitDefEqProofs only [szs, ne_eq] <;> omega) | fail)) only [go_sem, Nat.reduceAdd, Nat.reduceSub, Nat.reduceMul, Nat.reduceLT, Nat.reduceMod, Nat.reduceDiv, Nat.reduceEqDiff, Nat.reduceBEq, Nat.reduceLeDiff, ↓reduceIte, reduceCtorEq, Int.reduceAdd, Int.reduceSub, Int.reduceLT, Int.reduceLE, Int.reduceBEq, Int.reduceEq, Int.reduceToNat], by simp -implicitDefEqProofs (disch := (first | omega | (simp -implicitDefEqProofs only [szs, ne_eq] <;> omega) | fail)) only [go_sem, Nat.reduceAdd, Nat.reduceSub, Nat.reduceMul, Nat.reduceLT, Nat.reduceMod, Nat.reduceDiv, Nat.reduceEqDiff, Nat.reduceBEq, Nat.reduceLeDiff, ↓reduceIte, reduceCtorEq, Int.reduceAdd, Int.reduceSub, Int.reduceLT, Int.reduceLE, Int.reduceBEq, Int.reduceEq, Int.reduceToNat], 0, by omega, by simp -implicitDefEqProofs (disch := (first | omega | (simp -implicitDefEqProofs only [szs, ne_eq] <;> omega) | fail)) only [go_sem, Nat.reduceAdd, Nat.reduceSub, Nat.reduceMul, Nat.reduceLT, Nat.reduceMod, Nat.reduceDiv, Nat.reduceEqDiff, Nat.reduceBEq, Nat.reduceLeDiff, ↓reduceIte, reduceCtorEq, Int.reduceAdd, Int.reduceSub, Int.reduceLT, Int.reduceLE, Int.reduceBEq, Int.reduceEq, Int.reduceToNat]; rfl, hI1, hlr⟩
  rintro k ⟨⟨n', tr⟩, mks⟩ g ⟨hmk, hn', t0, t1, t13, t14, p, hpk, t15, hI, hlg⟩
  simp only [Tm.get_mk] at hmk hn' t0 t1 t13 t14 t15
  subst hmk hn'
  by_cases hpc : p < D.dirty.length
  · obtain ⟨hdg, hgb, hgn⟩ := hx p g hI
    obtain ⟨b, o, cap, ex, cc, ce, rfl, hb0, hb, hbs, hbg⟩ := hlg.get (i := p) (by simpa using hpc)
    rw [List.length_map] at hbs
    have hsp : D.dirty[p]? = some D.dirty[p] := List.getElem?_eq_getElem hpc
    have hmd := mem_dirty.1 (List.getElem_mem hpc)
    rw [List.getD_eq_getElem?_getD, List.getElem?_map, hsp, Option.map_some, Option.getD_some] at hbg
    obtain ⟨c2, e1, e2, e3, e4, e5, e6⟩ := hdg.d
    have hlk := hdg.look D.dirty[p]
    rw [if_neg hmd.2] at hlk
    rw [h1] at hgb
    simp -implicitDefEqProofs (disch := (first | omega | (simp -implicitDefEqProofs only [szs, ne_eq] <;> omega) | fail)) only [go_sem, Nat.reduceAdd, Nat.reduceSub, Nat.reduceMul, Nat.reduceLT, Nat.reduceMod, Nat.reduceDiv, Nat.reduceEqDiff, Nat.reduceBEq, Nat.reduceLeDiff, ↓reduceIte, reduceCtorEq, Int.reduceAdd, Int.reduceSub, Int.reduceLT, Int.reduceLE, Int.reduceBEq, Int.reduceEq, Int.reduceToNat, ir47_l0, t0, t1, t13, t14, t15, hb, hbs, hbg, hgb, e1, e2, e5, hlk, List.length_map]
    refine GYield.of ((hround p _ g hsp hI).foot (fun _ h => h) (fun _ h => h)) ?_
    rintro v g2 ⟨hq, hk2⟩
    rcases hq with ⟨rfl, hI2⟩ | ⟨rfl, hJ⟩
    · simp -implicitDefEqProofs (disch := (first | omega | (simp -implicitDefEqProofs only [szs, ne_eq] <;> omega) | fail)) only [go_sem, Nat.reduceAdd, Nat.reduceSub, Nat.reduceMul, Nat.reduceLT, Nat.reduceMod, Nat.reduceDiv, Nat.reduceEqDiff, Nat.reduceBEq, Nat.reduceLeDiff, ↓reduceIte, reduceCtorEq, Int.reduceAdd, Int.reduceSub, Int.reduceLT, Int.reduceLE, Int.reduceBEq, Int.reduceEq, Int.reduceToNat, t0, t1, t13, t14, t15]
      have hlg2 := hlg.same (h' := g2) fun b hb hlt => hk2 b hb hlt
      rw [List.length_map] at hlg2 ⊢
      exact ⟨k - 1, by omega, rfl, p + 1, by omega, rfl, hI2, hlg2⟩
    · simp -implicitDefEqProofs (disch := (first | omega | (simp -implicitDefEqProofs only [szs, ne_eq] <;> omega) | fail)) only [go_sem, Nat.reduceAdd, Nat.reduceSub, Nat.reduceMul, Nat.reduceLT, Nat.reduceMod, Nat.reduceDiv, Nat.reduceEqDiff, Nat.reduceBEq, Nat.reduceLeDiff, ↓reduceIte, reduceCtorEq, Int.reduceAdd, Int.reduceSub, Int.reduceLT, Int.reduceLE, Int.reduceBEq, Int.reduceEq, Int.reduceToNat, t0, t1, t13, t14, t15]
      exact .inr hJ
  · obtain rfl : p = D.dirty.length := by omega
    simp -implicitDefEqProofs (disch := (first | omega | (simp -implicitDefEqProofs only [szs, ne_eq] <;> omega) | fail)) only [go_sem, Nat.reduceAdd, Nat.reduceSub, Nat.reduceMul, Nat.reduceLT, Nat.reduceMod, Nat.reduceDiv, Nat.reduceEqDiff, Nat.reduceBEq, Nat.reduceLeDiff, ↓reduceIte, reduceCtorEq, Int.reduceAdd, Int.reduceSub, Int.reduceLT, Int.reduceLE, Int.reduceBEq, Int.reduceEq, Int.reduceToNat, ir47_l0, t0, t1, t13, t14, t15]
    exact .inl hI
end Go.Proofs.Ytgkcbpagdfdpdaa
