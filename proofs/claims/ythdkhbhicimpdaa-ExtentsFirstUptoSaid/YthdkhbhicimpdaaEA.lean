/- New of the document's extents. -/
import Derived.Test.YthdkhbhicimpdaaE9
set_option linter.unusedVariables false
set_option maxRecDepth 100000
namespace Go.Vm
def GrowAt (h : Heap) (v : V) (l : List V) (e : TypeId) : Prop := (l = [] ∧ v = .slice none 0 0 true) ∨ ∃ b, l ≠ [] ∧ v = .slice (some (b, 0)) l.length l.length false ∧ h.get b = some (.cells (Blk.of l) e)
theorem GrowAt.keep {h h' : Heap} {v : V} {l : List V} {e : TypeId} (hv : GrowAt h v l e) (hk : ∀ b, b < h.n → h'.get b = h.get b) : GrowAt h' v l e := by
  refine hv.imp id ?_
  rintro ⟨b, h1, h2, h3⟩
  exact ⟨b, h1, h2, by rw [hk _ (Heap.lt_of_get h3)]; exact h3⟩
theorem grow_app {P : Program} {h : Heap} {v x : V} {l : List V} {e : TypeId} {bytes xb : Nat} (hv : GrowAt h v l e) (hx : h.get xb = some (.cells (Blk.of [x]) e)) (h1 : x.one = true) (hb : (l.length + 1) * bytes ≤ 140737488355328) (hbig : l.length + 1 ≤ 9223372036854775807) :
    ∃ h5 r5 w5, appE e 1 bytes v (.slice (some (xb, 0)) 1 1 true) h = some ⟨.slice (some (h.n, 0)) (l.length + 1) (l.length + 1) false, h5, r5, w5⟩ ∧ h5.n = h.n + 1 ∧ h5.get h.n = some (.cells (Blk.of (l ++ [x])) e) ∧ (∀ c, c < h.n → (∀ b, v = .slice (some (b, 0)) l.length l.length false → c ≠ b) → h5.get c = h.get c) ∧ ((r5 = [xb] ∧ w5 = [] ∧ v = .slice none 0 0 true) ∨ ∃ b, b < h.n ∧ v = .slice (some (b, 0)) l.length l.length false ∧ h.get b = some (.cells (Blk.of l) e) ∧ r5 = [xb] ++ [b] ∧ w5 = [b]) := by
  rcases hv with ⟨rfl, rfl⟩ | ⟨b, h0, rfl, hbk⟩
  · refine ⟨_, _, _, append_firstS (P := P) (vs := [x]) hx (by simp [Blk.of]) rfl (by simpa using hb), by simp, by rw [w_push_eq rfl]; rfl, fun c hc _ => by rw [w_push_ne (by omega)], .inl ⟨rfl, rfl, rfl⟩⟩
  · have hlt := Heap.lt_of_get hbk
    refine ⟨_, _, _, append_nextS (P := P) (vs := [x]) hx (by simp [Blk.of]) rfl (by simp [allOne, h1]) (by omega) hbk hb hbig, by simp, by rw [w_push_eq (by simp)], fun c hc hcb => ?_, .inr ⟨b, hlt, rfl, hbk, rfl, rfl⟩⟩
    rw [w_push_ne (by rw [Heap.n_set]; omega), w_set_ne hlt (hcb b rfl)]
theorem GrowAt.kept {h h' : Heap} {v : V} {l : List V} {e : TypeId} (hv : GrowAt h v l e) (hk : ∀ b, v = .slice (some (b, 0)) l.length l.length false → h'.get b = h.get b) : GrowAt h' v l e := by
  refine hv.imp id ?_
  rintro ⟨b, h1, h2, h3⟩
  exact ⟨b, h1, h2, by rw [hk b h2]; exact h3⟩
end Go.Vm
namespace Go.Proofs.Ythdkhbhicimpdaa
open Go Go.Vm
attribute [-go_sem] sz_113
theorem ap_22 : apT Try.prog 22 22 = some (3, 1, 8) := by kernel_rfl
theorem ap_66 : apT Try.prog 66 66 = some (64, 1, 24) := by kernel_rfl
theorem rnew31_none {h : Heap} {R W : Set'} {v : V} : SF Try.prog 31 [.ptr none, v] h R W fun v h' => v = .tuple [.ptr none, .int .i64 1] ∧ h' = h := by
  refine SF.go hm Try.func31 ir31_eq ?_
  simp -implicitDefEqProofs (disch := (first | omega | fail)) only [go_sem, Nat.reduceAdd, Nat.reduceSub, Nat.reduceLT, Nat.reduceMod, Nat.reduceDiv, ↓reduceIte, reduceCtorEq, ir31, Option.isNone_none]
theorem rnew31_arg {h : Heap} {R W : Set'} {rd : Nat} {v : V} {m : Nat} {q : Nat → Int} (hq : QI h v m q) (hm1 : m = 0 ∨ 8 < m) : SF Try.prog 31 [.ptr (some (rd, 0)), v] h R W fun v h' => v = .tuple [.ptr none, .int .i64 2] ∧ h' = h := by
  have hlv := hq.lenV
  have hl := hq.len
  refine SF.go hm Try.func31 ir31_eq ?_
  rcases hm1 with rfl | h8
  · simp -implicitDefEqProofs (disch := (first | omega | fail)) only [go_sem, Nat.reduceAdd, Nat.reduceSub, Nat.reduceLT, Nat.reduceMod, Nat.reduceDiv, ↓reduceIte, reduceCtorEq, ir31, undefV, ↓hlv]
  · simp -implicitDefEqProofs (disch := (first | omega | fail)) only [go_sem, Nat.reduceAdd, Nat.reduceSub, Nat.reduceLT, Nat.reduceMod, Nat.reduceDiv, ↓reduceIte, reduceCtorEq, ir31, ↓hlv]
def qL (sq : Nat → Nat) (p : Nat) : List V := (List.range p).map fun a => .int .i64 (sq a : Int)
def hL (n0 : Nat) (sq : Nat → Nat) (p : Nat) : List V := (List.range p).map fun a => .slice (some (n0 + 1 + 5 * a + 2, 0)) (sq a) (sq a) true
theorem qL_len (sq : Nat → Nat) (p : Nat) : (qL sq p).length = p := by simp [qL]
theorem hL_len (n0 : Nat) (sq : Nat → Nat) (p : Nat) : (hL n0 sq p).length = p := by simp [hL]
def upd1 (sq : Nat → Nat) (p x : Nat) : Nat → Nat := fun a => if a = p then x else sq a
theorem qL_succ (sq : Nat → Nat) (p x : Nat) : qL (upd1 sq p x) (p + 1) = qL sq p ++ [.int .i64 (x : Int)] := by
  simp only [qL, List.range_succ, List.map_append, List.map_cons, List.map_nil]
  congr 1
  · refine List.map_congr_left fun a ha => ?_
    have := List.mem_range.1 ha
    simp only [upd1]
    rw [if_neg (by omega)]
  · simp [upd1]
theorem hL_succ (n0 : Nat) (sq : Nat → Nat) (p x : Nat) : hL n0 (upd1 sq p x) (p + 1) = hL n0 sq p ++ [.slice (some (n0 + 1 + 5 * p + 2, 0)) x x true] := by
  simp only [hL, List.range_succ, List.map_append, List.map_cons, List.map_nil]
  congr 1
  · refine List.map_congr_left fun a ha => ?_
    have := List.mem_range.1 ha
    simp only [upd1]
    rw [if_neg (by omega)]
  · simp [upd1]
theorem sumN_upd (sq : Nat → Nat) (p x : Nat) : sumN (upd1 sq p x) (p + 1) = sumN sq p + x := by
  have : ∀ k, k ≤ p → sumN (upd1 sq p x) k = sumN sq k := by
    intro k
    induction k with
    | zero => intro _; rfl
    | succ k ih =>
      intro hk
      simp only [sumN]
      rw [ih (by omega)]
      simp only [upd1]
      rw [if_neg (by omega)]
  simp only [sumN]
  rw [this p (Nat.le_refl _)]
  simp [upd1]
structure RN (h g : Heap) (q : Nat → Int) (rd n i p : Nat) (sq : Nat → Nat) (vq vh : V) : Prop where
  pi : p ≤ i
  gn : g.n = h.n + 1 + 5 * p
  full : (stQ q n i).2 = false → p = i ∧ ∀ a, a < i → (sq a : Int) = q a
  sum : (stQ q n i).1 = sumN sq p
  c : ∃ c, g.get h.n = some (.cells c 68) ∧ c.size = 3 ∧ c.ro = false ∧ c.get 0 = .ptr (some (rd, 0)) ∧ c.get 1 = vq ∧ c.get 2 = vh
  gq : GrowAt g vq (qL sq p) 3
  gh : GrowAt g vh (hL h.n sq p) 64
  bq : ∀ b, vq = .slice (some (b, 0)) p p false → ∃ a, a < p ∧ b = h.n + 1 + 5 * a + 1
  bh : ∀ b, vh = .slice (some (b, 0)) p p false → ∃ a, a < p ∧ b = h.n + 1 + 5 * a + 4
  bb : ∀ a, a < p → g.get (h.n + 1 + 5 * a + 2) = some (.cells (Blk.rep (sq a) [.bool false]) 4)
set_option maxHeartbeats 2000000 in
theorem rnew31_go {h : Heap} {R W S : Set'} {rd : Nat} {D : DS} (hr : RefAt h S rd D) (hR : ∀ b, R b) {v : V} {m : Nat} {q : Nat → Int} (hq : QI h v m q) (hm1 : 1 ≤ m ∧ m ≤ 8) : SF Try.prog 31 [.ptr (some (rd, 0)), v] h R W fun v h' => h.n ≤ h'.n ∧ (∀ b, b < h.n → h'.get b = h.get b) ∧ (((∃ i, i < m ∧ q i < 0) ∧ v = .tuple [.ptr none, .int .i64 2]) ∨ ((∀ i, i < m → 0 ≤ q i) ∧ (stQ q D.n m).2 = true ∧ v = .tuple [.ptr none, .int .i64 5]) ∨ ((∀ i, i < m → 0 ≤ q i) ∧ (stQ q D.n m).2 = false ∧ v = .tuple [.ptr (some (h.n, 0)), .int .i64 0] ∧ ∃ sq vq vh, RN h h' q rd D.n m m sq vq vh)) := by
  have hint := hq.int
  rcases hq.at' with ⟨h0, _⟩ | ⟨b, o, cap, ex, cq, ce, rfl, hb, hsz, hcap, hget⟩
  · omega
  obtain ⟨cd, fb, pb, xf, xp, d1, d2, d3, d4, d5, d6, _⟩ := hr.d
  have hdn := hr.pos
  have hlb := Heap.lt_of_get hb
  have hRb := hR b
  have hRd := hR rd
  refine SF.go hm Try.func31 ir31_eq ?_
  simp -implicitDefEqProofs (disch := (first | omega | fail)) only [go_sem, Nat.reduceAdd, Nat.reduceSub, Nat.reduceLT, Nat.reduceMod, Nat.reduceDiv, Nat.reduceLeDiff, ↓reduceIte, reduceCtorEq, ir31, d1, d2, d4, hRd]
  refine GLoop.inv hm (fun k f g => f.mks = [] ∧ f.tm.n = 80 ∧ f.tm.get 1 = some (.slice (some (b, o)) m cap ex) ∧ f.tm.get 8 = some (.ptr (some (h.n, 0))) ∧ (∀ b, b < h.n → g.get b = h.get b) ∧ ∃ i p : Nat, ∃ sq vq vh, i + k = m ∧ (∀ j, j < i → 0 ≤ q j) ∧ f.tm.get 7 = some (.bool (stQ q D.n i).2) ∧ f.tm.get 9 = some (.int .i64 i) ∧ f.tm.get 6 = some (.int .i64 (D.n - (stQ q D.n i).1)) ∧ RN h g q rd D.n i p sq vq vh) m ?_ ?_
  · refine ⟨rfl, rfl, by simp -implicitDefEqProofs (disch := (first | omega | fail)) only [go_sem, Nat.reduceDiv, ↓reduceIte, reduceCtorEq], by simp -implicitDefEqProofs (disch := (first | omega | fail)) only [go_sem, Nat.reduceSub, Nat.reduceMod, Nat.reduceDiv, ↓reduceIte, reduceCtorEq], fun b hb => by simp -implicitDefEqProofs (disch := (first | omega | fail)) only [go_sem], 0, 0, fun _ => 0, .slice none 0 0 true, .slice none 0 0 true, by omega, fun j hj => by omega, by simp -implicitDefEqProofs (disch := (first | omega | fail)) only [go_sem, Nat.reduceMod, Nat.reduceDiv, ↓reduceIte, reduceCtorEq]; rfl, by simp -implicitDefEqProofs (disch := (first | omega | fail)) only [go_sem, Nat.reduceSub, Nat.reduceMod, Nat.reduceDiv, ↓reduceIte, reduceCtorEq]; rfl, ?_, ⟨Nat.le_refl _, by simp -implicitDefEqProofs (disch := (first | omega | fail)) only [go_sem], fun _ => ⟨rfl, fun a ha => by omega⟩, rfl, ⟨_, w_push_eq rfl _, rfl, rfl, rfl, rfl, rfl⟩, .inl ⟨rfl, rfl⟩, .inl ⟨rfl, rfl⟩, fun b hb => by simp at hb, fun b hb => by simp at hb, fun a ha => by omega⟩⟩
    simp -implicitDefEqProofs (disch := (first | omega | fail)) only [go_sem, Nat.reduceSub, Nat.reduceMod, Nat.reduceDiv, ↓reduceIte, reduceCtorEq, stQ]
    simp
  rintro k ⟨⟨n', tr⟩, mks⟩ g ⟨hmk, hn', t1, t8, hold, i, p, sq, vq, vh, hi, hpos, t7, t9, t6, rn⟩
  simp only [Tm.get_mk] at hmk hn' t1 t8 t7 t9 t6
  subst hmk hn'
  obtain ⟨c, c1, csz, cro, c0, cvq, cvh⟩ := rn.c
  have hgn := rn.gn
  have hpi := rn.pi
  have hb' := (hold _ hlb).trans hb
  have hle := stQ_le (q := q) (n := D.n) hpos
  obtain ⟨a, ea⟩ : ∃ a, a = (stQ q D.n i).1 := ⟨_, rfl⟩
  obtain ⟨fl, efl⟩ : ∃ fl, fl = (stQ q D.n i).2 := ⟨_, rfl⟩
  rw [← ea] at t6 hle
  rw [← efl] at t7
  by_cases him : i < m
  · have hqi := hget i him
    have hbd := hint i him
    by_cases hneg : q i < 0
    · simp -implicitDefEqProofs (disch := (first | omega | fail)) only [go_sem, Nat.reduceAdd, Nat.reduceLT, Nat.reduceEqDiff, ↓reduceIte, ir31_l0, t1, t9, hb', hqi, hRb]
      exact ⟨by omega, hold, .inl ⟨i, him, hneg⟩⟩
    have hpos' : ∀ j, j < i + 1 → 0 ≤ q j := fun j hj => by
      by_cases ej : j = i
      · subst ej; omega
      · exact hpos j (by omega)
    by_cases hfu : q i > (D.n : Int) - a
    · have e1 : (stQ q D.n (i + 1)) = (a, true) := by rw [stQ_succ, ← ea, if_pos hfu]
      simp -implicitDefEqProofs (disch := (first | omega | fail)) only [go_sem, Nat.reduceAdd, Nat.reduceLT, Nat.reduceEqDiff, ↓reduceIte, ir31_l0, t1, t8, t9, t6, hb', hqi, hRb]
      exact ⟨k - 1, by omega, hold, i + 1, p, sq, vq, vh, by omega, hpos', by rw [e1], congrArg _ (by omega), by rw [e1], ⟨by omega, hgn, fun hf => by rw [e1] at hf; simp at hf, by rw [e1]; exact ea.trans rn.sum, rn.c, rn.gq, rn.gh, rn.bq, rn.bh, rn.bb⟩⟩
    · have e1 : (stQ q D.n (i + 1)) = (a + q i, fl) := by rw [stQ_succ, ← ea, if_neg hfu, efl]
      obtain ⟨x, eq⟩ := Int.eq_ofNat_of_zero_le (show 0 ≤ q i by omega)
      rw [eq] at hqi hfu hneg e1
      have hp8 : p ≤ 8 := by omega
      obtain ⟨g1, eg1⟩ : ∃ g1, g.push (.cells (Blk.of [.int .i64 (x : Int)]) 3) = g1 := ⟨_, rfl⟩
      have n1 : g1.n = g.n + 1 := by rw [← eg1]; simp
      have kg1 : ∀ b, b < g.n → g1.get b = g.get b := fun b hb => by rw [← eg1, w_push_ne (by omega)]
      obtain ⟨h5, r5, w5, eA, n5, b5, k5, rw5⟩ := grow_app (P := Try.prog) (bytes := 8) (xb := g.n) (x := .int .i64 (x : Int)) (rn.gq.keep (h' := g1) kg1) (by rw [← eg1, w_push_eq rfl]) rfl (by rw [qL_len]; omega) (by rw [qL_len]; omega)
      rw [qL_len] at eA k5 rw5
      have c5 : h5.get h.n = some (.cells c 68) := by
        rw [k5 h.n (by omega) (fun b hb => by obtain ⟨a', ha', rfl⟩ := rn.bq b hb; omega), kg1 _ (by omega)]
        exact c1
      have hb5 : h5.get b = some (.cells cq ce) := by
        rw [k5 b (by omega) (fun b' hb2 => by obtain ⟨a', ha', rfl⟩ := rn.bq b' hb2; omega), kg1 _ (by omega)]
        exact hb'
      have hmk : 0 ≤ (x : Int) ∧ (x : Int) ≤ (x : Int) ∧ 1 * (x : Int).toNat ≤ 281474976710656 ∧ (x : Int) ≤ 9223372036854775807 := by omega
      have hmk2 : 1 * x ≤ 281474976710656 := by omega
      have hmk3 : x ≤ 281474976710656 := by omega
      have htn : (x : Int).toNat = x := by omega
      obtain ⟨g2, eg2⟩ : ∃ g2, ((h5.set h.n (.cells (c.set 1 (.slice (some (g1.n, 0)) (p + 1) (p + 1) false)) 68)).push (.cells (Blk.rep x [.bool false]) 4)).push (.cells (Blk.of [.slice (some (h5.n, 0)) x x true]) 64) = g2 := ⟨_, rfl⟩
      have n2 : g2.n = h5.n + 2 := by rw [← eg2]; simp
      have kg2 : ∀ b, b < h5.n → b ≠ h.n → g2.get b = h5.get b := fun b hb hne => by
        rw [← eg2, w_push_ne (by simp; omega), w_push_ne (by simp; omega), w_set_ne (by omega) hne]
      have x2 : g2.get (h5.n + 1) = some (.cells (Blk.of [.slice (some (h5.n, 0)) x x true]) 64) := by
        rw [← eg2, w_push_eq (by simp)]
      have y2 : g2.get h5.n = some (.cells (Blk.rep x [.bool false]) 4) := by
        rw [← eg2, w_push_ne (by simp), w_push_eq (by simp)]
      have z2 : g2.get h.n = some (.cells (c.set 1 (.slice (some (g1.n, 0)) (p + 1) (p + 1) false)) 68) := by
        rw [← eg2, w_push_ne (by simp; omega), w_push_ne (by simp; omega), w_set_eq (by omega) rfl]
      obtain ⟨h6, r6, w6, eB, n6, b6, k6, rw6⟩ := grow_app (P := Try.prog) (bytes := 24) (xb := h5.n + 1) (x := .slice (some (h5.n, 0)) x x true) (rn.gh.kept (h' := g2) (fun b hb => by
        rw [hL_len] at hb
        obtain ⟨a', ha', rfl⟩ := rn.bh b hb
        rw [kg2 _ (by omega) (by omega), k5 _ (by omega) (fun b hb => by obtain ⟨a2, ha2, rfl⟩ := rn.bq b hb; omega), kg1 _ (by omega)])) x2 rfl (by rw [hL_len]; omega) (by rw [hL_len]; omega)
      rw [hL_len] at eB k6 rw6
      have c6 : h6.get h.n = some (.cells (c.set 1 (.slice (some (g1.n, 0)) (p + 1) (p + 1) false)) 68) := by
        rw [k6 h.n (by omega) (fun b hb => by obtain ⟨a', ha', rfl⟩ := rn.bh b hb; omega)]
        exact z2
      simp -implicitDefEqProofs (disch := (first | omega | fail)) only [go_sem, Nat.reduceAdd, Nat.reduceLT, Nat.reduceEqDiff, ↓reduceIte, ir31_l0, t1, t8, t7, t9, t6, hb', hqi, hRb, eg1, appendV_of ap_22, appendV_of ap_66, ↓eA, c1, csz, cro, cvq, cvh, c5, hmk, hmk3, htn, eg2, ↓eB, c6, hb5]
      have hw5 : ∀ b, b ∈ w5 → h.n ≤ b := fun b hb => by
        rcases rw5 with ⟨_, rfl, _⟩ | ⟨b', hb', ev, _, _, rfl⟩
        · simp at hb
        · rw [List.mem_singleton.1 hb]
          obtain ⟨a', ha', rfl⟩ := rn.bq b' ev
          omega
      have hw6 : ∀ b, b ∈ w6 → h.n ≤ b := fun b hb => by
        rcases rw6 with ⟨_, rfl, _⟩ | ⟨b', hb', ev, _, _, rfl⟩
        · simp at hb
        · rw [List.mem_singleton.1 hb]
          obtain ⟨a', ha', rfl⟩ := rn.bh b' ev
          omega
      simp only [List.not_mem_nil, or_false, false_or, and_false, false_implies, implies_true, not_false_eq_true, List.mem_cons, and_true, true_and]
      obtain ⟨h7, e7⟩ : ∃ h7, h6.set h.n (.cells ((c.set 1 (.slice (some (g1.n, 0)) (p + 1) (p + 1) false)).set 2 (.slice (some (g2.n, 0)) (p + 1) (p + 1) false)) 68) = h7 := ⟨_, rfl⟩
      rw [e7]
      have k7 : ∀ b, b ≠ h.n → h7.get b = h6.get b := fun b hb => by rw [← e7, w_set_ne (by omega) hb]
      have n7 : h7.n = h6.n := by rw [← e7]; simp
      have old7 : ∀ b, b < h.n → h7.get b = h.get b := fun b hb => by
        rw [k7 b (by omega), k6 b (by omega) (fun b' e => by obtain ⟨a', ha', rfl⟩ := rn.bh b' e; omega), kg2 b (by omega) (by omega), k5 b (by omega) (fun b' e => by obtain ⟨a', ha', rfl⟩ := rn.bq b' e; omega), kg1 b (by omega)]
        exact hold b hb
      have gq7 : h7.get g1.n = some (.cells (Blk.of (qL sq p ++ [.int .i64 (x : Int)])) 3) := by
        rw [k7 _ (by omega), k6 _ (by omega) (fun b' e => by obtain ⟨a', ha', rfl⟩ := rn.bh b' e; omega), kg2 _ (by omega) (by omega)]
        exact b5
      have gh7 : h7.get g2.n = some (.cells (Blk.of (hL h.n sq p ++ [.slice (some (h5.n, 0)) x x true])) 64) := by
        rw [k7 _ (by omega)]
        exact b6
      have eh5 : h5.n = h.n + 1 + 5 * p + 2 := by omega
      refine ⟨fun b hb => by omega, ⟨fun b _ _ => .inr (hR b), fun b _ hb => .inl (hw5 b hb)⟩, fun b hb => by omega, ⟨fun b _ _ => .inr (hR b), fun b _ hb => .inl (hw6 b hb)⟩, k - 1, by omega, old7, i + 1, p + 1, upd1 sq p x, .slice (some (g1.n, 0)) (p + 1) (p + 1) false, .slice (some (g2.n, 0)) (p + 1) (p + 1) false, by omega, hpos', by rw [e1], congrArg _ (by omega), by rw [e1]; exact congrArg _ (by omega), ⟨by omega, by omega, fun hf => ?_, ?_, ⟨_, by rw [← e7, w_set_eq (by omega) rfl], ?_, ?_, ?_, ?_, ?_⟩, ?_, ?_, ?_, ?_, ?_⟩⟩
      · rw [e1] at hf
        have hfl : fl = false := hf
        obtain ⟨rfl, f1⟩ := rn.full (by rw [← efl]; exact hfl)
        refine ⟨rfl, fun a' ha' => ?_⟩
        unfold upd1
        by_cases ej : a' = p
        · rw [if_pos ej, ej, eq]
        · rw [if_neg ej]
          exact f1 a' (by omega)
      · rw [e1, sumN_upd]
        have := rn.sum
        show a + (x : Int) = _
        omega
      · rw [Blk.size_set, Blk.size_set]; exact csz
      · rw [Blk.ro_set, Blk.ro_set]; exact cro
      · simp -implicitDefEqProofs (disch := (first | omega | fail)) only [go_sem]; exact c0
      · simp -implicitDefEqProofs (disch := (first | omega | fail)) only [go_sem]
      · simp -implicitDefEqProofs (disch := (first | omega | fail)) only [go_sem]
      · refine .inr ⟨g1.n, by simp [qL], by rw [qL_len], ?_⟩
        rw [qL_succ]; exact gq7
      · refine .inr ⟨g2.n, by simp [hL], by rw [hL_len], ?_⟩
        rw [hL_succ, ← eh5]; exact gh7
      · intro b' e
        simp at e
        exact ⟨p, by omega, by omega⟩
      · intro b' e
        simp at e
        exact ⟨p, by omega, by omega⟩
      · intro a' ha'
        unfold upd1
        by_cases ej : a' = p
        · rw [if_pos ej, ej, ← eh5, k7 _ (by omega), k6 _ (by omega) (fun b' e => by obtain ⟨a2, ha2, rfl⟩ := rn.bh b' e; omega)]
          exact y2
        · rw [if_neg ej, k7 _ (by omega), k6 _ (by omega) (fun b' e => by obtain ⟨a2, ha2, rfl⟩ := rn.bh b' e; omega), kg2 _ (by omega) (by omega), k5 _ (by omega) (fun b' e => by obtain ⟨a2, ha2, rfl⟩ := rn.bq b' e; omega), kg1 _ (by omega)]
          exact rn.bb a' (by omega)
  · have : i = m := by omega
    subst this
    rw [efl] at t7
    by_cases hf : (stQ q D.n i).2 = true
    · rw [hf] at t7
      simp -implicitDefEqProofs (disch := (first | omega | fail)) only [go_sem, Nat.reduceAdd, Nat.reduceLT, Nat.reduceEqDiff, ↓reduceIte, ir31_l0, t1, t7, t9]
      exact ⟨by omega, hold, .inr (.inl ⟨hpos, hf⟩)⟩
    · have hf' : (stQ q D.n i).2 = false := by simpa using hf
      rw [hf'] at t7
      simp -implicitDefEqProofs (disch := (first | omega | fail)) only [go_sem, Nat.reduceAdd, Nat.reduceLT, Nat.reduceEqDiff, ↓reduceIte, ir31_l0, t1, t8, t7, t9]
      obtain ⟨rfl, _⟩ := rn.full hf'
      exact ⟨by omega, hold, .inr (.inr ⟨hpos, hf', _, _, _, rn⟩)⟩
theorem RN.ext {h g : Heap} {q : Nat → Int} {rd n m : Nat} {sq : Nat → Nat} {vq vh : V} (rn : RN h g q rd n m m sq vq vh) (hm1 : 1 ≤ m ∧ m ≤ 8) (hn : n ≤ 4096) (hpos : ∀ i, i < m → 0 ≤ q i) (hf : (stQ q n m).2 = false) :
    ∃ qb hb, RExt g (fun b => h.n ≤ b) h.n rd qb hb (fun a => h.n + 1 + 5 * a + 2) (XS.new m fun a => (q a).toNat) := by
  obtain ⟨_, f1⟩ := rn.full hf
  have hsq : ∀ a, a < m → sq a = (q a).toNat := fun a ha => by have := f1 a ha; omega
  obtain ⟨c, c1, csz, cro, c0, cvq, cvh⟩ := rn.c
  obtain ⟨s1, s2⟩ := stQ_good hpos hf
  have hqL : ∀ a, a < m → (Blk.of (qL sq m)).get a = .int .i64 (sq a : Int) := fun a ha => by
    rw [Blk.get_of _ _ (by rw [qL_len]; omega)]
    simp [qL, ha]
  have hhL : ∀ a, a < m → (Blk.of (hL h.n sq m)).get a = .slice (some (h.n + 1 + 5 * a + 2, 0)) (sq a) (sq a) true := fun a ha => by
    rw [Blk.get_of _ _ (by rw [hL_len]; omega)]
    simp [hL, ha]
  rcases rn.gq with ⟨e0, _⟩ | ⟨qb, _, eq, bq⟩
  · have := congrArg List.length e0
    rw [qL_len] at this
    simp at this
    omega
  rcases rn.gh with ⟨e0, _⟩ | ⟨hb, _, eh, bh⟩
  · have := congrArg List.length e0
    rw [hL_len] at this
    simp at this
    omega
  rw [qL_len] at eq
  rw [hL_len] at eh
  subst eq eh
  obtain ⟨a1, ha1, rfl⟩ := rn.bq _ rfl
  obtain ⟨a2, ha2, rfl⟩ := rn.bh _ rfl
  refine ⟨_, _, ⟨⟨Nat.le_refl _, ?_, ?_, fun a ha h0 => ?_⟩, hm1, ⟨c, _, _, c1, csz, cro, c0, cvq, cvh⟩, ⟨_, bq, by rw [w_of_size, qL_len]; rfl, rfl, fun a ha => ?_⟩, ⟨_, bh, by rw [w_of_size, hL_len]; rfl, rfl, fun a ha => ?_⟩, fun a ha h0 => ?_, fun a ha => rfl, fun a ha => ?_, fun a b ha hb _ _ hne => ?_, fun a ha h0 => ?_⟩⟩
  · show h.n ≤ _; omega
  · show h.n ≤ _; omega
  · show h.n ≤ _; omega
  · rw [hqL a ha, hsq a ha]; rfl
  · rw [hhL a ha, hsq a ha]
    exact ⟨rfl, fun k => by simp [lenV, Try.underlying64, XS.new], fun _ => ⟨true, rfl⟩⟩
  · refine ⟨_, rn.bb a ha, ?_, rfl, fun s hs => ?_⟩
    · show sq a = _
      rw [hsq a ha]; rfl
    · rw [rep_get, show s % [V.bool false].length = 0 from Nat.mod_one s]; rfl
  · have := sumN_le (q := fun a => (q a).toNat) (i := a + 1) (m := m) ha
    simp only [XS.new, sumN] at this ⊢
    omega
  · show h.n + 1 + 5 * a + 2 ≠ h.n + 1 + 5 * b + 2
    omega
  · have h0' : sq a = 0 := by rw [hsq a ha]; exact h0
    refine ⟨_, bh, .inr (.inr ⟨_, _, _, by rw [hhL a ha, h0'], ?_, _, rn.bb a ha⟩)⟩
    show h.n ≤ _
    omega
end Go.Proofs.Ythdkhbhicimpdaa
