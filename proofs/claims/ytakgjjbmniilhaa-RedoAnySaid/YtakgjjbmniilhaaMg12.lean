/- The document's disk: Write. -/
import Derived.Test.YtakgjjbmniilhaaMg11
set_option linter.unusedVariables false
set_option maxRecDepth 100000
set_option linter.unusedVariables false
namespace Go.Proofs.Ytakgjjbmniilhaa
open Go Go.Vm
attribute [-go_sem] qQ
def PLc (h : Heap) (R : Set') (v : V) (ll : List (List V)) : Prop := ∃ vs, LR h R v vs ∧ vs.length = ll.length ∧ ∀ i l, ll[i]? = some l → LRc h R (vs.getD i qE) l
theorem PLc.same {h h' : Heap} {R : Set'} {v : V} {ll : List (List V)} (hp : PLc h R v ll) (hk : ∀ b, R b → b < h.n → h'.get b = h.get b) : PLc h' R v ll := by
 obtain ⟨vs, h1, h2, h3⟩ := hp
 exact ⟨vs, h1.same hk, h2, fun i l e => (h3 i l e).same hk⟩
theorem PLc.mono {h : Heap} {R R' : Set'} {v : V} {ll : List (List V)} (hp : PLc h R v ll) (hk : ∀ b, b < h.n → R b → R' b) : PLc h R' v ll := by
 obtain ⟨vs, h1, h2, h3⟩ := hp
 exact ⟨vs, h1.mono hk, h2, fun i l e => (h3 i l e).mono hk⟩
theorem PLc.nil (h : Heap) (R : Set') : PLc h R (.slice none 0 0 true) [] := ⟨[], .inl ⟨rfl, .inl rfl⟩, rfl, fun i l e => by simp at e⟩
def Rx (R : Set') (rd fb pb : Nat) : Set' := fun b => R b ∧ b ≠ rd ∧ b ≠ fb ∧ b ≠ pb
structure RefX (h : Heap) (R : Set') (rd fb pb : Nat) (D : DS) : Prop where
 pos : 1 ≤ D.n ∧ D.n ≤ 4096
 r : R rd ∧ R fb ∧ R pb
 d : ∃ c xf xp, h.get rd = some (.cells c 105) ∧ c.size = 3 ∧ c.ro = false ∧ c.get 0 = .slice (some (fb, 0)) D.n D.n xf ∧ c.get 1 = .slice (some (pb, 0)) D.n D.n xp ∧ c.get 2 = .int .i64 D.wr
 f : ∃ cf, h.get fb = some (.cells cf 22) ∧ cf.size = D.n ∧ cf.ro = false ∧ ∀ s, s < D.n → LRc h (Rx R rd fb pb) (cf.get s) (D.fl s)
 p : ∃ cp, h.get pb = some (.cells cp 45) ∧ cp.size = D.n ∧ cp.ro = false ∧ ∀ s, s < D.n → PLc h (Rx R rd fb pb) (cp.get s) (D.pe s)
 fl : ∀ s, s < D.n → zS (D.fl s)
 pe : ∀ s, ∀ l ∈ D.pe s, zS l
 out : ∀ s, D.n ≤ s → D.pe s = []
 few : ∀ s, (D.pe s).length ≤ 1000000000
theorem RefX.ne {h : Heap} {R : Set'} {rd fb pb : Nat} {D : DS} (hr : RefX h R rd fb pb D) : rd ≠ fb ∧ rd ≠ pb ∧ fb ≠ pb := by
 obtain ⟨c, xf, xp, d1, _⟩ := hr.d
 obtain ⟨cf, f1, _⟩ := hr.f
 obtain ⟨cp, p1, _⟩ := hr.p
 refine ⟨fun e => ?_, fun e => ?_, fun e => ?_⟩
 ·rw [e, f1] at d1; cases d1
 ·rw [e, p1] at d1; cases d1
 ·rw [e, p1] at f1; cases f1
theorem RefX.lt {h : Heap} {R : Set'} {rd fb pb : Nat} {D : DS} (hr : RefX h R rd fb pb D) : rd < h.n ∧ fb < h.n ∧ pb < h.n := by
 obtain ⟨c, xf, xp, d1, _⟩ := hr.d
 obtain ⟨cf, f1, _⟩ := hr.f
 obtain ⟨cp, p1, _⟩ := hr.p
 exact ⟨Heap.lt_of_get d1, Heap.lt_of_get f1, Heap.lt_of_get p1⟩
theorem RefX.at {h : Heap} {R : Set'} {rd fb pb : Nat} {D : DS} (hr : RefX h R rd fb pb D) : RefAt h R rd D := by
 obtain ⟨c, xf, xp, d1, d2, d3, d4, d5, d6⟩ := hr.d
 obtain ⟨cf, f1, f2, f3, f4⟩ := hr.f
 obtain ⟨cp, p1, p2, p3, p4⟩ := hr.p
 exact ⟨hr.pos, hr.r.1, ⟨c, fb, pb, xf, xp, d1, d2, d3, d4, d5, d6, hr.r.2.1, hr.r.2.2, ⟨cf, f1, f2, f3, fun s hs => (f4 s hs).mono fun b _ h => h.1⟩, ⟨cp, p1, p2, p3, fun s hs => (p4 s hs).mono fun b _ h => h.1⟩⟩, hr.fl, hr.pe, hr.out, hr.few⟩
theorem RefX.same {h h' : Heap} {R : Set'} {rd fb pb : Nat} {D : DS} (hr : RefX h R rd fb pb D) (hk : ∀ b, R b → b < h.n → h'.get b = h.get b) : RefX h' R rd fb pb D := by
 obtain ⟨l1, l2, l3⟩ := hr.lt
 obtain ⟨hp, r, ⟨c, xf, xp, d1, d2⟩, ⟨cf, f1, f2, f3, f4⟩, ⟨cp, p1, p2, p3, p4⟩, h1, h2, h3, h4⟩ := hr
 exact ⟨hp, r, ⟨c, xf, xp, by rw [hk _ r.1 l1]; exact d1, d2⟩, ⟨cf, by rw [hk _ r.2.1 l2]; exact f1, f2, f3, fun s hs => (f4 s hs).same fun b hb => hk b hb.1⟩, ⟨cp, by rw [hk _ r.2.2 l3]; exact p1, p2, p3, fun s hs => (p4 s hs).same fun b hb => hk b hb.1⟩, h1, h2, h3, h4⟩
theorem RefX.old {h h' : Heap} {R : Set'} {rd fb pb : Nat} {D : DS} (hr : RefX h R rd fb pb D) (hk : ∀ b, b < h.n → h'.get b = h.get b) : RefX h' R rd fb pb D := hr.same fun b _ hb => hk b hb
theorem RefX.mono {h : Heap} {R R' : Set'} {rd fb pb : Nat} {D : DS} (hr : RefX h R rd fb pb D) (hk : ∀ b, b < h.n → R b → R' b) : RefX h R' rd fb pb D := by
 obtain ⟨l1, l2, l3⟩ := hr.lt
 obtain ⟨hp, r, hd, ⟨cf, f1, f2, f3, f4⟩, ⟨cp, p1, p2, p3, p4⟩, h1, h2, h3, h4⟩ := hr
 exact ⟨hp, ⟨hk _ l1 r.1, hk _ l2 r.2.1, hk _ l3 r.2.2⟩, hd, ⟨cf, f1, f2, f3, fun s hs => (f4 s hs).mono fun b hb h => ⟨hk b hb h.1, h.2⟩⟩, ⟨cp, p1, p2, p3, fun s hs => (p4 s hs).mono fun b hb h => ⟨hk b hb h.1, h.2⟩⟩, h1, h2, h3, h4⟩
def Rn (R : Set') (n n' : Nat) : Set' := fun b => R b ∨ n ≤ b ∧ b < n'
theorem RefX.setP {h h' : Heap} {S : Set'} {rd fb pb s : Nat} {D : DS} {v : V} {ll : List (List V)} {x : Int} (hr : RefX h S rd fb pb D) (hs : s < D.n) (hv : PLc h (Rx S rd fb pb) v ll) (hll : ∀ l ∈ ll, zS l) (hlen : ll.length ≤ 1000000000)
  (kd : ∃ c c', h.get rd = some (.cells c 105) ∧ h'.get rd = some (.cells c' 105) ∧ c'.size = c.size ∧ c'.ro = c.ro ∧ c'.get 0 = c.get 0 ∧ c'.get 1 = c.get 1 ∧ c'.get 2 = .int .i64 x)
  (kp : ∃ cp, h.get pb = some (.cells cp 45) ∧ h'.get pb = some (.cells (cp.set s v) 45)) (hk : ∀ b, b ≠ rd → b ≠ pb → b < h.n → h'.get b = h.get b) : RefX h' S rd fb pb { D with pe := fun y => if y = s then ll else D.pe y, wr := x } := by
 obtain ⟨e1, e2, e3⟩ := hr.ne
 obtain ⟨hp, r, ⟨c, xf, xp, d1, d2, d3, d4, d5, d6⟩, ⟨cf, f1, f2, f3, f4⟩, ⟨cp, p1, p2, p3, p4⟩, h1, h2, h3, h4⟩ := hr
 obtain ⟨c0, c', k0, k1, k2, k3, k4, k5, k6⟩ := kd
 rw [d1] at k0; cases k0
 obtain ⟨cp0, q0, q1⟩ := kp
 rw [p1] at q0; cases q0
 have hx : ∀ b, Rx S rd fb pb b → b < h.n → h'.get b = h.get b := fun b hb hlt => hk b hb.2.1 hb.2.2.2 hlt
 refine ⟨hp, r, ⟨c', xf, xp, k1, by rw [k2]; exact d2, by rw [k3]; exact d3, by rw [k4]; exact d4, by rw [k5]; exact d5, k6⟩, ⟨cf, by rw [hk _ (Ne.symm e1) e3 (Heap.lt_of_get f1)]; exact f1, f2, f3, fun y hy => (f4 y hy).same hx⟩, ⟨_, q1, by rw [Blk.size_set]; exact p2, by rw [Blk.qY]; exact p3, fun y hy => ?_⟩, h1, fun y l hl => ?_, fun y hy => ?_, fun y => ?_⟩
 ·have hy : y < D.n := hy
  by_cases hys : y = s
  ·subst hys
   rw [w_bset_eq rfl]
   show PLc h' _ v (if y = y then ll else D.pe y)
   rw [if_pos rfl]
   exact hv.same hx
  ·rw [w_bset_ne hys]
   show PLc h' _ _ (if y = s then ll else D.pe y)
   rw [if_neg hys]
   exact (p4 y hy).same hx
 ·simp only [] at hl
  split at hl
  ·exact hll l hl
  ·exact h2 y l hl
 ·have hy : D.n ≤ y := hy
  simp only []
  rw [if_neg (by omega)]; exact h3 y hy
 ·simp only []
  split
  ·exact hlen
  ·exact h4 y
theorem PLc.one {h : Heap} {R : Set'} {vs : List V} {ll : List (List V)} (hl : vs.length = ll.length) (h3 : ∀ i l, ll[i]? = some l → LRc h R (vs.getD i qE) l) : allOne vs = true := allOne_of fun i hi => by
 have := h3 i (ll[i]'(by omega)) (by rw [List.getElem?_eq_getElem])
 exact this.one
theorem getD_app_left {l m : List V} {i : Nat} (h : i < l.length) : (l ++ m).getD i qE = l.getD i qE := by
 rw [List.getD_eq_getElem?_getD, List.getD_eq_getElem?_getD, List.getElem?_append_left h]
theorem PLc.snoc {h : Heap} {R : Set'} {v v2 : V} {vs : List V} {ll : List (List V)} {l : List V} (hv : LR h R v (vs ++ [v2])) (hl : vs.length = ll.length) (h3 : ∀ i l, ll[i]? = some l → LRc h R (vs.getD i qE) l) (h2 : LRc h R v2 l) : PLc h R v (ll ++ [l]) := by
 refine ⟨_, hv, by simp [hl], fun i m e => ?_⟩
 by_cases hi : i < ll.length
 ·rw [List.getElem?_append_left hi] at e
  rw [getD_app_left (by omega)]
  exact h3 i m e
 ·rw [List.getElem?_append_right (by omega)] at e
  have hi2 : i = ll.length := by
   have := (List.getElem?_eq_some_iff.1 e).1
   simp at this; omega
  subst hi2
  simp at e; subst e
  rw [List.getD_eq_getElem?_getD, List.getElem?_append_right (by omega), show ll.length - vs.length = 0 by omega]
  exact h2
set_option maxHeartbeats 1000000 in
theorem rwrite_ok {h : Heap} {R W S : Set'} {rd fb pb : Nat} {D : DS} (hr : RefX h S rd fb pb D) (hR : ∀ b, R b) (hW : ∀ b, S b → W b) {s : Nat} (hs : s < D.n) {v : V} {l : List V} (hv : LR h (fun _ => True) v l) (hl : zS l) (few : (D.pe s).length < 1000000000) :
  SF Try.prog 53 [.ptr (some (rd, 0)), .int .i64 s, v] h R W fun v h' => v = .int .i64 0 ∧ RefX h' (Rn S h.n h'.n) rd fb pb (D.write s l) := by
 obtain ⟨l1, l2, l3⟩ := hr.lt
 obtain ⟨e1, e2, e3⟩ := hr.ne
 obtain ⟨c, xf, xp, d1, d2, d3, d4, d5, d6⟩ := hr.d
 obtain ⟨cp, p1, p2, p3, p4⟩ := hr.p
 obtain ⟨vs, v1, vl, v3⟩ := p4 s hs
 have hN := zA
 have hsl := hl.1
 have hlv := hv.lenV Try.underlying22
 have hWr := hW rd hr.r.1
 have hWp := hW pb hr.r.2.2
 have hRr := hR rd
 have hRp := hR pb
 obtain ⟨x1, rs1, x2, _⟩ := first_lr v1
 obtain ⟨a1, g1, r1, w1, hap1, o1, m1, k1, hw1, kk1, _⟩ := jK (n0 := h.n) (h := h) (v := .slice none 0 0 true) (x := cp.get s) (l := []) (e := 22) (bytes := 24) (Own.nil _ _ _) (Nat.le_refl _) x1 x2 (PLc.one vl v3) (by simp only [List.length_nil]; omega) (by simp only [List.length_nil]; omega)
 rw [List.nil_append] at o1
 obtain ⟨y1, rs2, y2, _⟩ := first_lr (hv.old k1)
 obtain ⟨a2, g2, r2, w2, hap2, o2, m2, k2, hw2, kk2, _⟩ := jK (n0 := g1.n) (h := g1) (v := .slice none 0 0 true) (x := v) (l := []) (e := 5) (bytes := 1) (Own.nil _ _ _) (Nat.le_refl _) y1 y2 hl.one (by simp only [List.length_nil]; omega) (by simp only [List.length_nil]; omega)
 rw [List.nil_append] at o2
 have one2 : allOne [a2] = true := by have := o2.lr.one; simp only [allOne, this]
 obtain ⟨a3, g3, r3, w3, hap3, o3, m3, k3, hw3, kk3, ht3⟩ := jK (n0 := h.n) (h := g2.push (.cells (Blk.of [a2]) 22)) (v := a1) (x := .slice (some (g2.n, 0)) 1 1 true) (l := vs) (news := [a2]) (e := 22) (bytes := 24) ((o1.old k2).old fun b hb => qC (by omega) _) (by simp; omega) rfl (yO (e := 22) (qH rfl _)) one2 (by simp only [List.length_cons, List.length_nil]; omega) (by simp only [List.length_cons, List.length_nil]; omega)
 have m3' : g2.n + 1 ≤ g3.n := by simpa using m3
 have o2' : Own g1.n g3 a2 l 5 := o2.keep fun b c' e => by
  have hb := Heap.lt_of_get e
  rw [kk3 b (by simp; omega) (fun hb' => by
   obtain ⟨c2, e2⟩ := ht3 b hb'
   rw [qC (by omega), e] at e2; cases e2), qC (by omega)]
  exact e
 have k03 : ∀ b, b < h.n → g3.get b = h.get b := fun b hb => by rw [k3 b hb, qC (by omega), k2 b (by omega), k1 b hb]
 have d1' := (k03 rd l1).trans d1
 have p1' := (k03 pb l3).trans p1
 have hcv := o3.lr.cells
 have hon := o3.lr.one
 have hcv2 := o2.lr.cells
 have hon2 := o2.lr.one
 have hr3 := (hr.old k03).mono (R' := Rn S h.n g3.n) fun b _ h => .inl h
 have lt1 := Heap.lt_of_get d1'
 have lt3 := Heap.lt_of_get p1'
 refine SF.go hm Try.func53 ir53_eq ?_
 simp -implicitDefEqProofs (disch := first | omega | (simp -implicitDefEqProofs only [szs, ne_eq] <;> omega) | fail) only [go_sem, seval, ↓reduceIte, reduceCtorEq, ir53]
 refine qK.of (rin_ok hr.at (fun b => .inr (hR b)) s) ?_
 rintro v' g ⟨rfl, rfl⟩
 rw [decide_eq_true (show 0 ≤ (s : Int) ∧ (s : Int) < D.n by omega)]
 simp -implicitDefEqProofs (disch := first | omega | (simp -implicitDefEqProofs only [szs, ne_eq] <;> omega) | fail) only [go_sem, seval, ↓reduceIte, reduceCtorEq, qE, ↓hlv, d1, d2, d3, d5, d6, p1, p2, p3, hRr, hRp, hWr, hWp, qU ap_45, qU jO, hap1, hap2, hap3, ↓hcv, ↓hon, ↓hcv2, d1', p1']
 have hx1 : ∀ b, b < g3.n → g.n ≤ b → Rx (Rn S g.n g3.n) rd fb pb b := fun b h1 h2 => ⟨.inr ⟨h2, h1⟩, by omega, by omega, by omega⟩
 have hx2 : ∀ b, b < g3.n → Rx S rd fb pb b → Rx (Rn S g.n g3.n) rd fb pb b := fun b h1 h2 => ⟨.inl h2.1, h2.2⟩
 refine ⟨?_, ?_, hr3.setP hs (PLc.snoc (o3.lr.mono hx1) vl (fun i l e => ((v3 i l e).old k03).mono hx2) ((Own.lrc o2').mono fun b h1 h2 => hx1 b h1 (by omega))) (fun l' hl' => ?_) (by simp; omega) ⟨c, _, d1', qF (by rw [Heap.n_set]; exact lt1) rfl _, by rw [Blk.size_set], by rw [Blk.qY], by simp -implicitDefEqProofs (disch := first | omega | (simp -implicitDefEqProofs only [szs, ne_eq] <;> omega) | fail) only [go_sem, seval], by simp -implicitDefEqProofs (disch := first | omega | (simp -implicitDefEqProofs only [szs, ne_eq] <;> omega) | fail) only [go_sem, seval], w_bset_eq rfl _⟩ ⟨cp, p1', ?_⟩ (fun b h1 h2 h3 => ?_)⟩
 ·simp only [List.not_mem_nil, or_false, false_or, and_false, false_implies, implies_true, not_false_eq_true, List.mem_cons, and_true, true_and]
  and_intros
  all_goals (intro b hb; first | omega | (intro hc; first | omega | (have := hw1 _ hb.2; omega) | (have := hw2 _ hb.2; omega) | (have := hw3 _ hb.2; omega)))
 ·and_intros
  all_goals (intros; first | exact .inr (hR _) | (have := hw1 _ (by assumption); exact .inl this) | (have := hw2 _ (by assumption); exact .inl (by omega)) | (have := hw3 _ (by assumption); exact .inl this))
 ·rcases List.mem_append.1 hl' with h1 | h1
  ·exact hr.pe s l' h1
  ·simp at h1; rw [h1]; exact hl
 ·rw [qB (by rw [Heap.n_set]; exact lt1) (Ne.symm e2)]; exact qF lt3 rfl _
 ·rw [qB (by rw [Heap.n_set]; exact lt1) h1, qB lt3 h2]
end Go.Proofs.Ytakgjjbmniilhaa
set_option maxRecDepth 100000
set_option linter.unusedVariables false
namespace Go.Proofs.Ytakgjjbmniilhaa
open Go Go.Vm
attribute [-go_sem] qQ
theorem RefX.setF {h h' : Heap} {S : Set'} {rd fb pb s : Nat} {D : DS} {v : V} {l : List V} (hr : RefX h S rd fb pb D) (hs : s < D.n) (hv : LRc h (Rx S rd fb pb) v l) (hl : zS l)
  (kf : ∃ cf, h.get fb = some (.cells cf 22) ∧ h'.get fb = some (.cells (cf.set s v) 22)) (hk : ∀ b, b ≠ fb → b < h.n → h'.get b = h.get b) : RefX h' S rd fb pb { D with fl := fun y => if y = s then l else D.fl y } := by
 obtain ⟨e1, e2, e3⟩ := hr.ne
 obtain ⟨hp, r, ⟨c, xf, xp, d1, d2, d3, d4, d5, d6⟩, ⟨cf, f1, f2, f3, f4⟩, ⟨cp, p1, p2, p3, p4⟩, h1, h2, h3, h4⟩ := hr
 obtain ⟨cf0, q0, q1⟩ := kf
 rw [f1] at q0; cases q0
 have hx : ∀ b, Rx S rd fb pb b → b < h.n → h'.get b = h.get b := fun b hb hlt => hk b hb.2.2.1 hlt
 refine ⟨hp, r, ⟨c, xf, xp, by rw [hk _ e1 (Heap.lt_of_get d1)]; exact d1, d2, d3, d4, d5, d6⟩, ⟨_, q1, by rw [Blk.size_set]; exact f2, by rw [Blk.qY]; exact f3, fun y hy => ?_⟩, ⟨cp, by rw [hk _ (Ne.symm e3) (Heap.lt_of_get p1)]; exact p1, p2, p3, fun y hy => (p4 y hy).same hx⟩, fun y hy => ?_, h2, h3, h4⟩
 ·have hy : y < D.n := hy
  show LRc h' _ _ (if y = s then l else D.fl y)
  by_cases hys : y = s
  ·subst hys
   rw [w_bset_eq rfl, if_pos rfl]
   exact hv.same hx
  ·rw [w_bset_ne hys, if_neg hys]
   exact (f4 y hy).same hx
 ·show zS (if y = s then l else D.fl y)
  split
  ·exact hl
  ·exact h1 y hy
theorem Rn_mono {S : Set'} {n n1 n2 b : Nat} (h : Rn S n n1 b) (hn : n1 ≤ n2) : Rn S n n2 b := h.imp id fun h => ⟨h.1, by omega⟩
set_option maxHeartbeats 1000000 in
theorem rflush_ok {h : Heap} {R W S : Set'} {rd fb pb : Nat} {D : DS} (hr : RefX h S rd fb pb D) (hR : ∀ b, R b) (hW : ∀ b, S b → W b) {a m : Nat} (ham : a + m ≤ D.n) :
  SF Try.prog 96 [.ptr (some (rd, 0)), .int .i64 a, .int .i64 m] h R W fun v h' => v = .int .i64 0 ∧ RefX h' (Rn S h.n h'.n) rd fb pb (D.flush a m) := by
 obtain ⟨l1, l2, l3⟩ := hr.lt
 obtain ⟨e1, e2, e3⟩ := hr.ne
 have hp := hr.pos
 have hN := zA
 have hWf := hW fb hr.r.2.1
 have hWp := hW pb hr.r.2.2
 have hRr := hR rd
 have hRp := hR pb
 have hRf := hR fb
 obtain ⟨c, xf, xp, d1, d2, d3, d4, d5, d6⟩ := hr.d
 refine SF.go hm Try.func96 ir96_eq ?_
 simp -implicitDefEqProofs (disch := omega) only [go_sem, seval, ↓reduceIte, reduceCtorEq, ir96, d1, d2, d4, hRr]
 refine kE.inv hm (fun k f g => f.mks = [] ∧ f.tm.n = 60 ∧ f.tm.get 0 = some (.ptr (some (rd, 0))) ∧ f.tm.get 1 = some (.int .i64 a) ∧ f.tm.get 2 = some (.int .i64 m) ∧ ∃ j : Nat, j + k = m ∧ f.tm.get 7 = some (.int .i64 ((a : Int) + j)) ∧ h.n ≤ g.n ∧ RefX g (Rn S h.n g.n) rd fb pb (D.flush a j)) m ?_ ?_
 ·exact ⟨rfl, rfl, by simp -implicitDefEqProofs (disch := omega) only [go_sem, seval, ↓reduceIte], by simp -implicitDefEqProofs (disch := omega) only [go_sem, seval, ↓reduceIte, reduceCtorEq], by simp -implicitDefEqProofs (disch := omega) only [go_sem, seval, ↓reduceIte, reduceCtorEq], 0, by omega, by simp -implicitDefEqProofs (disch := omega) only [go_sem, seval, ↓reduceIte, reduceCtorEq]; simp, Nat.le_refl _, by rw [DS.flush_zero]; exact hr.mono fun b _ h => .inl h⟩
 clear d1 d2 d3 d4 d5 d6 c xf xp
 rintro k ⟨⟨n', tr⟩, mks⟩ g ⟨hmk, hn', t0, t1, t2, j, hjk, t7, hgn, hx⟩
 simp only [Tm.kL] at hmk hn' t0 t1 t2 t7
 subst hmk hn'
 rw [show (a : Int) + j = ((a + j : Nat) : Int) by omega] at t7
 by_cases hjm : j < m
 ·obtain ⟨c, xf, xp, d1, d2, d3, d4, d5, d6⟩ := hx.d
  obtain ⟨cf, f1, f2, f3, f4⟩ := hx.f
  obtain ⟨cp, p1, p2, p3, p4⟩ := hx.p
  have hDn : (D.flush a j).n = D.n := rfl
  rw [hDn] at d4 d5 f2 p2
  have hlt : a + j < (D.flush a j).n := by rw [hDn]; omega
  simp -implicitDefEqProofs (disch := omega) only [go_sem, seval, ↓reduceIte, reduceCtorEq, ir96_l0, t0, t1, t2, t7, d1, d2, d4]
  refine qN.of (R' := R) (W' := fun _ => False) (rseen_ok hx.at hR hlt) ?_
  rintro v g1 ⟨hv, rfl⟩
  have hsec : zS ((D.flush a j).seen (a + j)) := by
   by_cases he : (D.flush a j).pe (a + j) = []
   ·rw [DS.seen_nil he]; exact hx.fl _ hlt
   ·exact hx.pe (a + j) _ (List.mem_of_getElem? (DS.seen_get he))
  have hsl := hsec.1
  obtain ⟨x1, rs1, x2, _⟩ := first_lr hv.1
  obtain ⟨a1, g2, r1, w1, hap1, o1, m1, k1, hw1, kk1, _⟩ := jK (n0 := g1.n) (h := g1) (v := .slice none 0 0 true) (x := v) (l := []) (e := 5) (bytes := 1) (Own.nil _ _ _) (Nat.le_refl _) x1 x2 hsec.one (by simp only [List.length_nil]; omega) (by simp only [List.length_nil]; omega)
  rw [List.nil_append] at o1
  have hcv := o1.lr.cells
  have hon := o1.lr.one
  have d1' := (k1 _ (Heap.lt_of_get d1)).trans d1
  have f1' := (k1 _ (Heap.lt_of_get f1)).trans f1
  have p1' := (k1 _ (Heap.lt_of_get p1)).trans p1
  have lt1 := Heap.lt_of_get d1'
  have lt2 := Heap.lt_of_get f1'
  have lt3 := Heap.lt_of_get p1'
  have hRT : ∀ b, R b = True := fun b => eq_true (hR b)
  simp -implicitDefEqProofs (disch := omega) only [go_sem, seval, ↓reduceIte, reduceCtorEq, t0, t1, t2, t7, d2, d5, hRr, qU jO, hap1, ↓hcv, ↓hon, d1', f1', f2, f3, hWf, hWp, p1', p2, p3]
  have hx2 : RefX g2 (Rn S h.n g2.n) rd fb pb (D.flush a j) := (hx.old k1).mono fun b _ h => Rn_mono h (by omega)
  have hx3 := hx2.setF (h' := g2.set fb (.cells (cf.set (a + j) a1) 22)) hlt ((Own.lrc o1).mono fun b h1 h2 => ⟨.inr ⟨by omega, h1⟩, by omega, by omega, by omega⟩) hsec ⟨cf, f1', qF lt2 rfl _⟩ (fun b h1 _ => qB lt2 h1 _)
  have hx4 := hx3.setP (h' := (g2.set fb (.cells (cf.set (a + j) a1) 22)).set pb (.cells (cp.set (a + j) (.slice none 0 0 true)) 45)) (ll := []) (x := D.wr) hlt (PLc.nil _ _) (fun l hl => by cases hl) (by simp) ⟨c, c, by rw [qB lt2 e1]; exact d1', by rw [qB (by rw [Heap.n_set]; exact lt3) e2, qB lt2 e1]; exact d1', rfl, rfl, rfl, rfl, d6⟩ ⟨cp, by rw [qB lt2 (Ne.symm e3)]; exact p1', qF (by rw [Heap.n_set]; exact lt3) rfl _⟩ (fun b h1 h2 _ => qB (by rw [Heap.n_set]; exact lt3) h2 _)
  refine ⟨?_, ?_, k - 1, by omega, j + 1, by omega, congrArg _ (by omega), by omega, ?_⟩
  ·simp only [List.not_mem_nil, or_false, false_or, and_false, false_implies, implies_true, not_false_eq_true, List.mem_cons, and_true]
   and_intros
   all_goals (intro b hb; first | omega | (intro hc; first | omega | (have := hw1 _ hb.2; omega)))
  ·and_intros
   all_goals (intros; first | exact .inr (hR _) | (have := hw1 _ (by assumption); exact .inl (by omega)) | exact (by assumption : False).elim)
  ·rw [← DS.flush_succ]
   exact hx4
 ·obtain rfl : j = m := by omega
  simp -implicitDefEqProofs (disch := omega) only [go_sem, seval, ↓reduceIte, ir96_l0, t1, t2, t7]
  exact hx
end Go.Proofs.Ytakgjjbmniilhaa
set_option maxRecDepth 100000
set_option linter.unusedVariables false
namespace Go.Proofs.Ytakgjjbmniilhaa
open Go Go.Vm
attribute [-go_sem] qQ
theorem slice_from {h : Heap} {R : Set'} {v : V} {l : List V} (hv : LR h R v l) (hc : xU v) {k : Nat} (hk : k < l.length) : ∃ v', kC Try.prog 22 v (some (k : Int)) none none = some v' ∧ xH v' = some (l.length - k) ∧ LR h R v' (l.drop k) := by
 rcases hv with ⟨rfl, _⟩ | ⟨b, o, cap, ex, c, ce, rfl, hR, hb, hs, hg⟩
 ·simp at hk
 ·have hcl : l.length ≤ cap := hc
  have hbv : kJ l.length cap (some (k : Int)) none none = some (k, l.length, cap) := by
   have : (k : Int).toNat = k := by omega
   simp only [kJ, this]
   rw [if_pos (by omega)]
  have hbe : Nat.beq cap k = false := w_beq_f (by omega)
  have hbl : Nat.blt k cap = true := w_blt_t (by omega)
  refine ⟨.slice (some (b, o + k * 1)) (l.length - k) (cap - k) ex, ?_, rfl, .inr ⟨b, o + k, cap - k, ex, c, ce, by rw [List.length_drop, Nat.mul_one], hR, hb, by rw [List.length_drop]; omega, ?_⟩⟩
  ·simp only [kC, Try.underlying22, sz_5, hbv]
   cases ex with
   | true => simp only [hbe]
   | false => simp only [hbl]; rw [if_pos ⟨hcl, .inl trivial⟩]
  ·refine Blk.jH (fun j hj => ?_) rfl
   rw [List.length_drop] at hj
   have := Blk.qM c l.length o (k + j) (by omega)
   rw [hg] at this
   rw [List.getD_eq_getElem?_getD, List.getElem?_drop, this, show o + k + j = o + (k + j) by omega]; rfl
def chunk (l : List V) (s : Nat) : List V := (l.drop (s * 128)).take 128
theorem chunk_sec {l : List V} (hb : ∀ x ∈ l, ∃ n : Int, x = .int .u8 n ∧ 0 ≤ n ∧ n ≤ 255) {s n : Nat} (hn : l.length = n * 128) (hs : s < n) : zS (chunk l s) := by
 have hN := zA
 refine ⟨by simp only [chunk, List.length_take, List.length_drop]; omega, fun v hv => hb v (List.mem_of_mem_drop (List.mem_of_mem_take hv))⟩
theorem copy_sec {h : Heap} {R : Set'} {v' : V} {l : List V} {b off cap s n : Nat} {ex : Bool} {c : Blk} {ce : TypeId} (hn : l.length = n * 128) (hs : s < n) (hl : xH v' = some (l.length - s * 128)) (hv : LR h R v' (l.drop (s * 128))) (hbyt : ∀ x ∈ l, ∃ n : Int, x = .int .u8 n ∧ 0 ≤ n ∧ n ≤ 255)
  (hb : h.get b = some (.cells c ce)) (hsz : off + 128 ≤ c.size) (hro : c.ro = false) : ∃ rs, copyV Try.prog 22 (.slice (some (b, off)) 128 cap ex) v' h = some ⟨.int .i64 128, h.set b (.cells (c.jL off (chunk l s)) ce), rs, [b]⟩ ∧ ∀ x ∈ rs, R x := by
 have hsec := chunk_sec hbyt hn hs
 have hN := zA
 have hcl := hsec.1
 have hmin : Nat.min (l.length - s * 128) 128 = 128 := Nat.min_eq_right (by omega)
 rcases hv with ⟨h0, _⟩ | ⟨b2, o2, cap2, ex2, c2, ce2, rfl, hR2, hb2, hs2, hg2⟩
 ·have := congrArg List.length h0
  simp at this; omega
 ·refine ⟨[b2], ?_, fun x hx => by simp at hx; rw [hx]; exact hR2⟩
  have hdl : (l.drop (s * 128)).length = l.length - s * 128 := List.length_drop
  have hgt : c2.gets o2 128 = chunk l s := by
   unfold chunk
   rw [← hg2]
   have : (l.drop (s * 128)).length = 128 + ((l.drop (s * 128)).length - 128) := by omega
   rw [this, gets_split, List.take_append_of_le_length (by rw [Blk.qJ]; omega), List.take_of_length_le (by rw [Blk.qJ]; omega)]
  simp only [copyV, Try.underlying22, sz_5, hl, hmin, kT, hb2]
  rw [qW (by omega)]
  simp only [Nat.mul_one, hgt, hb, hsec.one, hro]
  rw [qW (by omega)]
  rfl
noncomputable def fillF (l : List V) (i : Nat) : Nat → List V := fun s => if s < i then chunk l s else jD
noncomputable def DS.ofB (l : List V) (n : Nat) : DS := ⟨n, fillF l n, fun _ => [], 0⟩
theorem fillF_zero (l : List V) : fillF l 0 = fun _ => jD := by funext s; simp [fillF]
theorem fillF_succ (l : List V) (i : Nat) : fillF l (i + 1) = fun x => if x = i then chunk l i else fillF l i x := by
 funext s
 simp only [fillF]
 by_cases h : s = i
 ·subst h; rw [if_pos (by omega), if_pos rfl]
 ·rw [if_neg h]
  by_cases h2 : s < i
  ·rw [if_pos (by omega), if_pos h2]
  ·rw [if_neg (by omega), if_neg h2]
theorem fillF_sec {l : List V} (hb : ∀ x ∈ l, ∃ n : Int, x = .int .u8 n ∧ 0 ≤ n ∧ n ≤ 255) {n : Nat} (hn : l.length = n * 128) {i : Nat} (hi : i ≤ n) (s : Nat) : zS (fillF l i s) := by
 simp only [fillF]
 split
 ·exact chunk_sec hb hn (by omega)
 ·exact ze_sec
theorem RefFresh.set {h : Heap} {n0 rd n s : Nat} {F : Nat → List V} {sb : Nat → Nat} {ch : List V} {cc : Blk} (hf : RefFresh h n0 rd n F sb) (hs : s < n) (hb : h.get (sb s) = some (.cells cc 5)) (hl : ch.length = 128) : RefFresh (h.set (sb s) (.cells (cc.jL 0 ch) 5)) n0 rd n (fun x => if x = s then ch else F x) sb := by
 obtain ⟨c, fb, pb, xf, c1, cs, cr, c0, c2, c3, rf, rp, ⟨cf, f1, f2, f3, f4⟩, p1⟩ := hf.d
 have hlt := Heap.lt_of_get hb
 have hN := zA
 have ne : ∀ b c t, h.get b = some (.cells c t) → t ≠ 5 → (h.set (sb s) (.cells (cc.jL 0 ch) 5)).get b = some (.cells c t) := fun b c t e ht => by
  have : b ≠ sb s := fun e2 => by rw [e2, hb] at e; cases e; exact ht rfl
  rw [qB hlt this]; exact e
 refine ⟨hf.lo, ⟨c, fb, pb, xf, ne _ _ _ c1 (by decide), cs, cr, c0, c2, c3, rf, rp, ⟨cf, ne _ _ _ f1 (by decide), f2, f3, f4⟩, ne _ _ _ p1 (by decide)⟩, fun x hx => ?_, hf.inj⟩
 obtain ⟨h1, c2', e1, e2, e3, e4⟩ := hf.s x hx
 refine ⟨h1, ?_⟩
 by_cases hxs : x = s
 ·subst hxs
  rw [hb] at e1; cases e1
  exact ⟨_, qF hlt rfl _, by rw [Blk.jR]; exact e2, by rw [Blk.yU]; exact e3, by rw [if_pos rfl]; exact Blk.xM (by omega) (by omega)⟩
 ·rw [qB hlt (hf.inj x s hx hs hxs)]
  exact ⟨c2', e1, e2, e3, by rw [if_neg hxs]; exact e4⟩
set_option maxHeartbeats 1000000 in
theorem rof_ok {h : Heap} {R W S : Set'} {v : V} {l : List V} {n : Nat} (hv : LR h S v l) (hc : xU v) (hbyt : ∀ x ∈ l, ∃ n : Int, x = .int .u8 n ∧ 0 ≤ n ∧ n ≤ 255) (hn : l.length = n * 128) (hn2 : 1 ≤ n ∧ n ≤ 4096) (hR : ∀ b, R b) : SF Try.prog 23 [v] h R W fun v h' => v = .ptr (some (h.n + 1, 0)) ∧ (∃ sb, RefFresh h' h.n (h.n + 1) n (fillF l n) sb) ∧ ∀ b, b < h.n → h'.get b = h.get b := by
 have hlen := hv.lenV Try.underlying22
 have ht1 : (l.length : Int).tmod 128 = 0 := by
  rw [show (l.length : Int).tmod 128 = ((l.length % 128 : Nat) : Int) from rfl]; omega
 have ht2 : (l.length : Int).tdiv 128 = (n : Int) := by
  rw [show (l.length : Int).tdiv 128 = ((l.length / 128 : Nat) : Int) from rfl]; omega
 refine SF.go hm Try.func23 ir23_eq ?_
 simp -implicitDefEqProofs (disch := omega) only [go_sem, seval, ↓reduceIte, reduceCtorEq, ir23, ↓hlen, ht1, ht2]
 refine qK.of (rnew_ok hn2 (fun b => .inr (hR b))) ?_
 rintro w g ⟨rfl, ⟨sb, hf⟩, hold⟩
 simp -implicitDefEqProofs (disch := omega) only [go_sem, seval, ↓reduceIte, reduceCtorEq]
 refine kE.inv hm (fun k f g => f.mks = [] ∧ f.tm.n = 37 ∧ f.tm.get 0 = some v ∧ f.tm.get 3 = some (.ptr (some (h.n + 1, 0))) ∧ ∃ i : Nat, i + k = n ∧ f.tm.get 4 = some (.int .i64 i) ∧ RefFresh g h.n (h.n + 1) n (fillF l i) sb ∧ ∀ b, b < h.n → g.get b = h.get b) n ?_ ?_
 ·exact ⟨rfl, rfl, by simp -implicitDefEqProofs (disch := omega) only [go_sem, seval, ↓reduceIte], by simp -implicitDefEqProofs (disch := omega) only [go_sem, seval, ↓reduceIte, reduceCtorEq], 0, by omega, by simp -implicitDefEqProofs (disch := omega) only [go_sem, seval, ↓reduceIte, reduceCtorEq], by rw [fillF_zero]; exact hf, hold⟩
 clear hold hf
 rintro k ⟨⟨n', tr⟩, mks⟩ g ⟨hmk, hn', t0, t3, i, hi, t4, hf, hold⟩
 simp only [Tm.kL] at hmk hn' t0 t3 t4
 subst hmk hn'
 obtain ⟨c, fb, pb, xf, c1, cs, cr, c0, c2, c3, rf, rp, ⟨cf, f1, f2, f3, f4⟩, p1⟩ := hf.d
 have hR1 := hR (h.n + 1)
 have hRf := hR fb
 by_cases hin : i < n
 ·obtain ⟨h1, cc, e1, e2, e3, e4⟩ := hf.s i hin
  have hlt := Heap.lt_of_get e1
  have hfi := f4 i hin
  obtain ⟨v', hsl, hl', hv'⟩ := slice_from (hv.old hold) hc (k := i * 128) (by omega)
  obtain ⟨rs, hcp, hrs⟩ := copy_sec (cap := 128) (ex := true) (off := 0) hn hin hl' hv' hbyt e1 (by omega) e3
  rw [show ((i * 128 : Nat) : Int) = (i : Int) * 128 by omega] at hsl
  simp -implicitDefEqProofs (disch := omega) only [go_sem, seval, ↓reduceIte, reduceCtorEq, ir23_l0, t0, t3, t4, c1, cs, c0, hR1, f1, f2, hfi, hRf, hsl, hcp]
  refine ⟨⟨fun b _ _ => .inr (hR b), fun _ => .inl (by omega)⟩, k - 1, by omega, i + 1, by omega, rfl, ?_, fun b hb => by rw [qB hlt (by omega)]; exact hold b hb⟩
  rw [fillF_succ]
  exact hf.set hin e1 (chunk_sec hbyt hn hin).1
 ·obtain rfl : i = n := by omega
  simp -implicitDefEqProofs (disch := omega) only [go_sem, seval, ↓reduceIte, ir23_l0, t3, t4, c1, cs, c0, hR1]
  exact ⟨⟨sb, hf⟩, hold⟩
set_option maxHeartbeats 1000000 in
theorem of_ok {h : Heap} {R W S : Set'} {v : V} {l : List V} {n : Nat} (hv : LR h S v l) (hc : xU v) (hbyt : ∀ x ∈ l, ∃ n : Int, x = .int .u8 n ∧ 0 ≤ n ∧ n ≤ 255) (hn : l.length = n * 128) (hn2 : 1 ≤ n ∧ n ≤ 4096) (hR : ∀ b, R b) : SF Try.prog 22 [v] h R W fun v h' => ∃ L : DL, v = .tuple [.ptr (some (h.n + 2, 0)), .int .i64 0] ∧ h.n ≤ L.fb ∧ h.n ≤ L.mb ∧ DiskAt h' (h.n + 2) L (DS.ofB l n) ∧ ∀ b, b < h.n → h'.get b = h.get b := by
 have hlen := hv.lenV Try.underlying22
 have hN := zA
 have ht1 : (l.length : Int).tmod 128 = 0 := by
  rw [show (l.length : Int).tmod 128 = ((l.length % 128 : Nat) : Int) from rfl]; omega
 have ht2 : (l.length : Int).tdiv 128 = (n : Int) := by
  rw [show (l.length : Int).tdiv 128 = ((l.length / 128 : Nat) : Int) from rfl]; omega
 refine SF.go hm Try.func22 ir22_eq ?_
 simp -implicitDefEqProofs (disch := omega) only [go_sem, seval, ↓reduceIte, reduceCtorEq, ir22, ↓hlen, ht1, ht2]
 refine qK.of (((new_ok (R := R) (W := fun _ => False) (n := n) (by omega)).kept).foot (fun _ h => .inr h) (fun _ h => h.elim)) ?_
 rintro w g ⟨⟨L, rfl, hfb, hmb, hd⟩, vf⟩
 have hold : ∀ b, b < h.n → g.get b = h.get b := fun b hb => vf.get b hb id
 rw [show (n : Int).toNat = n by omega] at hd
 obtain ⟨c, d1, d2, d3, d4, d5, d6⟩ := hd.d
 have hDn : (DS.new n).n = n := rfl
 rw [hDn] at d4
 have hR2 := hR (h.n + 2)
 simp -implicitDefEqProofs (disch := omega) only [go_sem, seval, ↓reduceIte, reduceCtorEq, d1, d2, d4, hR2]
 refine kE.inv hm (fun k f g => f.mks = [] ∧ f.tm.n = 43 ∧ f.tm.get 0 = some v ∧ f.tm.get 4 = some (.ptr (some (h.n + 2, 0))) ∧ f.tm.get 25 = some (.int .i64 n) ∧ ∃ i : Nat, i + k = n ∧ f.tm.get 26 = some (.int .i64 i) ∧ DiskAt g (h.n + 2) L ((DS.new n).crashed (fillF l i)) ∧ ∀ b, b < h.n → g.get b = h.get b) n ?_ ?_
 ·exact ⟨rfl, rfl, by simp -implicitDefEqProofs (disch := omega) only [go_sem, seval, ↓reduceIte], by simp -implicitDefEqProofs (disch := omega) only [go_sem, seval, ↓reduceIte, reduceCtorEq], by simp -implicitDefEqProofs (disch := omega) only [go_sem, seval, ↓reduceIte, reduceCtorEq], 0, by omega, by simp -implicitDefEqProofs (disch := omega) only [go_sem, seval, ↓reduceIte, reduceCtorEq], by rw [fillF_zero]; exact hd, hold⟩
 clear hold hd d1 d2 d3 d4 d5 d6
 rintro k ⟨⟨n', tr⟩, mks⟩ g ⟨hmk, hn', t0, t4, t25, i, hi, t26, hd, hold⟩
 simp only [Tm.kL] at hmk hn' t0 t4 t25 t26
 subst hmk hn'
 by_cases hin : i < n
 ·obtain ⟨c, d1, d2, d3, d4, d5, d6⟩ := hd.d
  obtain ⟨f, f1, f2, f3, f4⟩ := hd.f
  have hDn : ((DS.new n).crashed (fillF l i)).n = n := rfl
  rw [hDn] at d4 f2
  have hlt := Heap.lt_of_get f1
  have hRf := hR L.fb
  obtain ⟨v', hsl, hl', hv'⟩ := slice_from (hv.old hold) hc (k := i * 128) (by omega)
  obtain ⟨rs, hcp, hrs⟩ := copy_sec (cap := 128) (ex := true) (off := i * 128) hn hin hl' hv' hbyt f1 (by omega) f3
  rw [show ((i * 128 : Nat) : Int) = (i : Int) * 128 by omega] at hsl
  simp -implicitDefEqProofs (disch := omega) only [go_sem, seval, ↓reduceIte, reduceCtorEq, ir22_l0, t0, t4, t25, t26, d1, d2, d4, hR2, sl_101, hsl, hcp]
  refine ⟨⟨fun b _ _ => .inr (hR b), fun _ => .inl (by omega)⟩, k - 1, by omega, i + 1, by omega, rfl, ?_, fun b hb => by rw [qB hlt (by omega)]; exact hold b hb⟩
  rw [fillF_succ]
  exact hd.poke hin (chunk_sec hbyt hn hin) f1 (by rw [qF hlt rfl]) (fun b hb _ => qB hlt hb _)
 ·obtain rfl : i = n := by omega
  simp -implicitDefEqProofs (disch := omega) only [go_sem, seval, ↓reduceIte, ir22_l0, t4, t25, t26]
  exact ⟨L, hfb, hmb, hd, hold⟩
theorem RefFresh.refx {h : Heap} {n0 rd n : Nat} {F : Nat → List V} {sb : Nat → Nat} (hf : RefFresh h n0 rd n F sb) (hn : 1 ≤ n ∧ n ≤ 4096) (hF : ∀ s, s < n → zS (F s)) : ∃ fb pb, RefX h (fun b => n0 ≤ b ∧ b < h.n) rd fb pb ⟨n, F, fun _ => [], 0⟩ := by
 obtain ⟨c, fb, pb, xf, c1, cs, cr, c0, c2, c3, rf, rp, ⟨cf, f1, f2, f3, f4⟩, p1⟩ := hf.d
 have hN := zA
 have e1 : rd ≠ fb := fun e => by rw [e, f1] at c1; cases c1
 have e2 : rd ≠ pb := fun e => by rw [e, p1] at c1; cases c1
 have e3 : fb ≠ pb := fun e => by rw [e, p1] at f1; cases f1
 refine ⟨fb, pb, hn, ⟨⟨hf.lo, Heap.lt_of_get c1⟩, ⟨rf, Heap.lt_of_get f1⟩, ⟨rp, Heap.lt_of_get p1⟩⟩, ⟨c, xf, true, c1, cs, cr, c0, c2, c3⟩, ⟨cf, f1, f2, f3, fun s hs => ?_⟩, ⟨_, p1, rfl, rfl, fun s hs => ?_⟩, hF, fun s l hl => by simp at hl, fun s hs => rfl, fun s => by simp⟩
 ·obtain ⟨h1, cc, q1, q2, q3, q4⟩ := hf.s s hs
  have hl := (hF s hs).1
  rw [f4 s hs]
  refine ⟨.inr ⟨sb s, 0, 128, true, cc, 5, by rw [hl, hN], ⟨⟨h1, Heap.lt_of_get q1⟩, fun e => ?_, fun e => ?_, fun e => ?_⟩, q1, by rw [q2]; show 0 + (F s).length ≤ 128; omega, by show cc.gets 0 (F s).length = F s; rw [hl]; exact q4⟩, Nat.le_refl _⟩
  ·rw [e, c1] at q1; cases q1
  ·rw [e, f1] at q1; cases q1
  ·rw [e, p1] at q1; cases q1
 ·rw [rep_get, show s % [V.slice none 0 0 true].length = 0 from Nat.mod_one s]
  exact PLc.nil _ _
end Go.Proofs.Ytakgjjbmniilhaa
set_option maxRecDepth 100000
set_option linter.unusedVariables false
namespace Go.Proofs.Ytakgjjbmniilhaa
open Go Go.Vm
attribute [-go_sem] qQ
variable {h g : Heap} {R W M N : Set'} {rd rp fr ct : Nat} {D : DS} {G : LgS}
def RkX (g : Heap) (S : Set') (rd : Nat) (D : DS) : Prop := (∃ fb pb, RefX g S rd fb pb D) ∧ ∀ k, S k → k < g.n
theorem RkX.same {S : Set'} (hx : RkX h S rd D) (hn : h.n ≤ g.n) (hk : ∀ k, S k → g.get k = h.get k) : RkX g S rd D := by
 obtain ⟨⟨fb, pb, hr⟩, hl⟩ := hx
 exact ⟨⟨fb, pb, hr.same fun b hb _ => hk b hb⟩, fun k hk => Nat.lt_of_lt_of_le (hl k hk) hn⟩
theorem RkX.old {S : Set'} (hx : RkX h S rd D) (hn : h.n ≤ g.n) (hk : ∀ k, k < h.n → g.get k = h.get k) : RkX g S rd D := hx.same hn fun k h => hk k (hx.2 k h)
theorem RkX.pos {S : Set'} (hx : RkX h S rd D) : 1 ≤ D.n ∧ D.n ≤ 4096 := by obtain ⟨⟨fb, pb, hr⟩, _⟩ := hx; exact hr.pos
theorem RkX.sec {S : Set'} (hx : RkX h S rd D) {s : Nat} (hs : s < D.n) : (D.seen s).length = 128 ∧ Byt (D.seen s) := by
 obtain ⟨⟨fb, pb, hr⟩, _⟩ := hx
 have : zS (D.seen s) := by
  unfold DS.seen
  split
  ·rename_i l e
   exact hr.pe s l (List.mem_of_getLast? e)
  ·exact hr.fl s hs
 exact ⟨this.1, this.2⟩
theorem seen_rk {S : Set'} (hx : RkX h S rd D) (hR : ∀ b, R b) {s : Nat} (hs : s < D.n) : SF Try.prog 59 [.ptr (some (rd, 0)), .int .i64 s] h R W fun v g => LRc h S v (D.seen s) ∧ g = h := by
 obtain ⟨⟨fb, pb, hr⟩, _⟩ := hx
 exact rseen_ok hr.at hR hs
def RkS (g g' : Heap) (M S : Set') (rd : Nat) (D : DS) : Prop := g.n ≤ g'.n ∧ (∀ k, k < g.n → ¬ M k → ¬ S k → g'.get k = g.get k) ∧ ∃ M', RkX g' M' rd D ∧ ∀ k, M' k → M k ∨ g.n ≤ k
theorem write_rk {S S' : Set'} {v : V} {l : List V} (hx : RkX h S rd D) (hR : ∀ b, R b) (hW : ∀ b, S b → W b) {s : Nat} (hs : s < D.n) (hv : LR h S' v l) (hl : l.length = 128) (hb : Byt l) (few : (D.pe s).length < 1000000000) : SF Try.prog 53 [.ptr (some (rd, 0)), .int .i64 s, v] h R W fun r g => r = .int .i64 0 ∧ RkS h g S (fun _ => False) rd (D.write s l) := by
 obtain ⟨⟨fb, pb, hr⟩, hlt⟩ := hx
 refine SF.mono (SF.foot (rwrite_ok (R := R) (W := S) hr hR (fun _ h => h) hs (hv.mono fun b _ _ => trivial) ⟨hl, hb⟩ few).kept (fun _ h => h) hW) ?_
 rintro r g ⟨⟨rfl, hr'⟩, vf⟩
 refine ⟨rfl, vf.n, fun k h1 h2 _ => vf.get k h1 h2, Rn S h.n g.n, ⟨⟨fb, pb, hr'⟩, fun k hk => ?_⟩, fun k hk => hk.imp id fun h => h.1⟩
 rcases hk with h1 | h1
 ·exact Nat.lt_of_lt_of_le (hlt k h1) vf.n
 ·exact h1.2
theorem flush_rk {S : Set'} (hx : RkX h S rd D) (hR : ∀ b, R b) (hW : ∀ b, S b → W b) {a m : Nat} (ham : a + m ≤ D.n) : SF Try.prog 96 [.ptr (some (rd, 0)), .int .i64 a, .int .i64 m] h R W fun r g => r = .int .i64 0 ∧ RkS h g S (fun _ => False) rd (D.flush a m) := by
 obtain ⟨⟨fb, pb, hr⟩, hlt⟩ := hx
 refine SF.mono (SF.foot (rflush_ok (R := R) (W := S) hr hR (fun _ h => h) ham).kept (fun _ h => h) hW) ?_
 rintro r g ⟨⟨rfl, hr'⟩, vf⟩
 refine ⟨rfl, vf.n, fun k h1 h2 _ => vf.get k h1 h2, Rn S h.n g.n, ⟨⟨fb, pb, hr'⟩, fun k hk => ?_⟩, fun k hk => hk.imp id fun h => h.1⟩
 rcases hk with h1 | h1
 ·exact Nat.lt_of_lt_of_le (hlt k h1) vf.n
 ·exact h1.2
def RlC (h : Heap) (rp rd fr ct : Nat) (H : Hd) : Prop := ∃ c, h.get rp = some (.cells c 109) ∧ c.size = 13 ∧ c.ro = false ∧ c.get 0 = .ptr (some (rd, 0)) ∧ c.get 1 = .int .i64 (fr : Int) ∧ c.get 2 = .int .i64 (ct : Int) ∧ c.gets 3 5 = H.v
theorem RlC.old {H : Hd} (hl : RlC h rp rd fr ct H) (hk : ∀ k, k < h.n → g.get k = h.get k) : RlC g rp rd fr ct H := by
 obtain ⟨c, h1, h2⟩ := hl
 exact ⟨c, (hk _ (Heap.lt_of_get h1)).trans h1, h2⟩
theorem rhalf_ok {H : Hd} (hl : RlC h rp rd fr ct H) (hc : 2 ≤ ct ∧ ct ≤ 4096) (hR : ∀ b, R b) : SF Try.prog 77 [.ptr (some (rp, 0))] h R W fun r g => r = .int .i64 (((ct - 2) / 2 : Nat) : Int) ∧ g = h := by
 obtain ⟨c, h1, h2, _, _, _, c2, _⟩ := hl
 have ra := hR rp
 have e1 : (ct : Int) - 2 = ((ct - 2 : Nat) : Int) := by omega
 have e2 : ((ct - 2 : Nat) : Int).tdiv 2 = (((ct - 2) / 2 : Nat) : Int) := rfl
 refine SF.go hm Try.func77 ir77_eq ?_
 simp -implicitDefEqProofs (disch := omega) only [go_sem, seval, ↓reduceIte, reduceCtorEq, ir77, h1, h2, c2, ra, e1, e2]
theorem rsectors_ok {n : Nat} (hn : n ≤ 1000000000) : SF Try.prog 78 [.int .i64 (n : Int)] h R W fun r g => r = .int .i64 (qL n : Nat) ∧ g = h := by
 have e1 : ((n : Int) + 119).tdiv 120 = ((qL n : Nat) : Int) := by
  rw [show (n : Int) + 119 = ((n + 119 : Nat) : Int) by omega]; rfl
 have e2 : (n : Int) + 120 - 1 = (n : Int) + 119 := by omega
 have e3 : IntKind.i64.wrap ((qL n : Nat) : Int) = ((qL n : Nat) : Int) := by unfold qL; rw [IntWalk.i64_in] <;> omega
 refine SF.go hm Try.func78 ir78_eq ?_
 simp -implicitDefEqProofs (disch := omega) only [go_sem, seval, ↓reduceIte, reduceCtorEq, ir78, e1, e2, e3]
set_option maxHeartbeats 4000000 in
theorem rbegin_ok {H : Hd} (hl : RlC h rp rd fr ct H) (hc : 2 ≤ ct ∧ ct ≤ 4096) (hf : fr ≤ 4096) (hha : H.ha < 2) (hR : ∀ b, R b) : SF Try.prog 54 [.ptr (some (rp, 0))] h R W fun r g => r = .int .i64 ((fr + 2 + H.ha * ((ct - 2) / 2) : Nat) : Int) ∧ g = h := by
 have hl0 := hl
 obtain ⟨c, h1, h2, _, _, c1, c2, c3⟩ := hl
 have ra := hR rp
 have c5 : c.get 5 = .int .u64 (H.ha : Int) := jG c3 (j := 2) (by omega)
 have e1 : (fr : Int) + 2 = ((fr + 2 : Nat) : Int) := by omega
 have e2 : IntKind.i64.wrap (H.ha : Int) = (H.ha : Int) := by rw [IntWalk.i64_in] <;> omega
 have e3 : (H.ha : Int) * (((ct - 2) / 2 : Nat) : Int) = ((H.ha * ((ct - 2) / 2) : Nat) : Int) := by rw [Int.natCast_mul]
 have hlt : H.ha * ((ct - 2) / 2) ≤ 4096 := by
  have : H.ha = 0 ∨ H.ha = 1 := by omega
  rcases this with e | e <;> rw [e] <;> omega
 have e4 : IntKind.i64.wrap ((H.ha * ((ct - 2) / 2) : Nat) : Int) = ((H.ha * ((ct - 2) / 2) : Nat) : Int) := by rw [IntWalk.i64_in] <;> omega
 have e5 : ((fr + 2 : Nat) : Int) + ((H.ha * ((ct - 2) / 2) : Nat) : Int) = ((fr + 2 + H.ha * ((ct - 2) / 2) : Nat) : Int) := by omega
 refine SF.go hm Try.func54 ir54_eq ?_
 simp -implicitDefEqProofs (disch := omega) only [go_sem, seval, ↓reduceIte, reduceCtorEq, ir54, h1, h2, c1, c5, cvd42_3, c42_3, e1, e2]
 refine qN.of (SF.foot (rhalf_ok (R := qR) (W := noW) hl0 hc (fun _ => trivial)) (fun _ h => h) (fun _ h => h)) ?_
 rintro r g ⟨rfl, rfl⟩
 simp -implicitDefEqProofs (disch := omega) only [go_sem, seval, ↓reduceIte, reduceCtorEq, e3, e4, e5]
 refine ⟨by (and_intros; all_goals (intro b hb hc; simp only [noW, qR, List.not_mem_nil, and_false, false_or, or_false] at hb hc <;> omega)), ⟨fun _ => .inr ra, fun _ => .inr ra, fun b _ _ => .inr (hR b), fun b _ h => h.elim⟩⟩
set_option maxHeartbeats 4000000 in
theorem rflushl_ok {H : Hd} (hx : RkX h M rd D) (hl : RlC h rp rd fr ct H) (hc : fr + ct ≤ D.n) (hR : ∀ b, R b) (hW : ∀ k, M k → W k) : SF Try.prog 81 [.ptr (some (rp, 0))] h R W fun _ g => RkS h g M (fun _ => False) rd (D.flush fr ct) := by
 obtain ⟨c, h1, h2, _, c0, c1, c2, _⟩ := hl
 have ra := hR rp
 have hp := hx.pos
 refine SF.go hm Try.func81 ir81_eq ?_
 simp -implicitDefEqProofs (disch := omega) only [go_sem, seval, ↓reduceIte, reduceCtorEq, ir81, h1, h2, c0, c1, c2]
 refine qN.of (R' := qR) (W' := M) ((flush_rk (R := qR) (W := M) hx (fun _ => trivial) (fun _ h => h) (a := fr) (m := ct) hc).foot (fun _ h => h) (fun _ h => h)) ?_
 rintro r g ⟨rfl, hq⟩
 simp -implicitDefEqProofs (disch := omega) only [go_sem, seval, ↓reduceIte, reduceCtorEq]
 have hR' : ∀ b, h.n ≤ b ∨ R b := fun b => .inr (hR b)
 exact ⟨by (and_intros; all_goals (intros; first | exact hR' _ | exact (by assumption : noW _).elim | exact (by assumption : False).elim | exact .inr (hW _ (by assumption)) | omega)), hq⟩
set_option maxHeartbeats 8000000 in
theorem rlay_ok {H : Hd} {c : Blk} (hx : RkX h M rd D) (hM : ¬ M rp) (l1 : h.get rp = some (.cells c 109)) (l2 : c.size = 13) (l3 : c.ro = false) (k0 : c.get 0 = .ptr (some (rd, 0))) (k1 : c.get 1 = .int .i64 (fr : Int)) (k2 : c.get 2 = .int .i64 (ct : Int)) {H0 : Hd} (k3 : c.gets 3 5 = H0.v) (hc : 16 ≤ ct ∧ fr + ct ≤ D.n) (hD : D.n ≤ 4096) (hlt : H.Lt) (few : (D.pe (fr + H.ep % 2)).length < 1000000000) (hR : ∀ b, R b) (hW : ∀ k, M k → W k) (hWl : W rp) :
  SF Try.prog 51 [.ptr (some (rp, 0)), .agg H.v] h R W fun _ g => RkS h g M (fun k => k = rp) rd (layD D fr ct H) ∧ ∃ c', g.get rp = some (.cells c' 109) ∧ c'.size = 13 ∧ c'.ro = false ∧ c'.gets 3 5 = H.v ∧ ∀ j, j < 3 ∨ 8 ≤ j → c'.get j = c.get j := by
 have hll := Heap.lt_of_get l1
 have ra := hR rp
 have e2 : (H.ep : Int).tmod 2 = ((H.ep % 2 : Nat) : Int) := rfl
 have e3 : IntKind.u64.wrap ((H.ep % 2 : Nat) : Int) = ((H.ep % 2 : Nat) : Int) := wrap64 (by omega)
 have e4 : IntKind.i64.wrap ((H.ep % 2 : Nat) : Int) = ((H.ep % 2 : Nat) : Int) := by rw [IntWalk.i64_in] <;> omega
 have e5 : (fr : Int) + ((H.ep % 2 : Nat) : Int) = ((fr + H.ep % 2 : Nat) : Int) := by omega
 have hR' : ∀ b, h.n ≤ b ∨ R b := fun b => .inr (hR b)
 refine SF.go hm Try.func51 ir51_eq ?_
 simp -implicitDefEqProofs (disch := first | omega | (simp -implicitDefEqProofs only [szs, ne_eq] <;> omega) | fail) only [go_sem, seval, ↓reduceIte, reduceCtorEq, ir51, Hd.v, qE, l1, l2, k0, k1, cvd42_3, c42_3, e2, e4, e5]
 have hh : Heap.get (h.push (.cells (Blk.of H.v) 107)) h.n = some (.cells (Blk.of H.v) 107) := qH rfl _
 refine qN.of (SF.foot (rput_ok (R := qR) (W := noW) hlt (fun _ => trivial)).kept (fun _ h => h) (fun _ h => h)) ?_
 rintro r1 g1 ⟨⟨o1, n1, k1'⟩, vf1⟩
 simp only [Heap.qG] at n1 k1' o1
 have kk1 : ∀ k, k < h.n → g1.get k = h.get k := fun k hk => by rw [k1' k (by omega), qC (by omega)]
 have L1 := (kk1 rp hll).trans l1
 have X1 := (k1' h.n (by omega)).trans hh
 have hx1 : RkX g1 M rd D := hx.old (by omega) kk1
 simp -implicitDefEqProofs (disch := first | omega | (simp -implicitDefEqProofs only [szs, ne_eq] <;> omega) | fail) only [go_sem, seval, ↓reduceIte, reduceCtorEq]
 have hep : fr + H.ep % 2 < D.n := by omega
 refine qN.of (R' := qR) (W' := M) ((write_rk (R := qR) (W := M) hx1 (fun _ => trivial) (fun _ h => h) hep o1.lr (putH_len H) (byt_putH H) few).foot (fun _ h => h) (fun _ h => h)) ?_
 rintro r2 g2 ⟨rfl, n2, k2', M2, hx2, hM2⟩
 have L2 := (k2' rp (by omega) hM id).trans L1
 have X2 := (k2' h.n (by omega) (fun h1 => by have := hx.2 _ h1; omega) id).trans X1
 simp -implicitDefEqProofs (disch := first | omega | (simp -implicitDefEqProofs only [szs, ne_eq] <;> omega) | fail) only [go_sem, seval, ↓reduceIte, reduceCtorEq]
 refine ⟨by (and_intros; all_goals (intro b hb hc; simp only [noW, qR, List.not_mem_nil, and_false, false_or, or_false] at hb hc <;> omega)), by (and_intros; all_goals (intros; first | exact hR' _ | exact (by assumption : noW _).elim | exact (by assumption : False).elim | exact .inr (hW _ (by assumption)) | omega)), ?_⟩
 refine qK.of (rflushl_ok (H := H0) (fr := fr) (ct := ct) hx2 ⟨c, L2, l2, l3, k0, k1, k2, k3⟩ hc.2 hR' (fun k h => (hM2 k h).elim (fun h => .inr (hW k h)) fun h => .inl (by omega))) ?_
 rintro r3 g3 ⟨n3, k3', M3, hx3, hM3⟩
 have nM2 : ¬ M2 rp := fun h1 => (hM2 rp h1).elim hM fun h2 => by omega
 have nM2x : ¬ M2 h.n := fun h1 => (hM2 _ h1).elim (fun h2 => by have := hx.2 _ h2; omega) fun h2 => by omega
 have L3 := (k3' rp (by omega) nM2 id).trans L2
 have X3 := (k3' h.n (by omega) nM2x id).trans X2
 simp -implicitDefEqProofs (disch := first | omega | (simp -implicitDefEqProofs only [szs, ne_eq] <;> omega) | fail) only [go_sem, seval, ↓reduceIte, reduceCtorEq, Hd.v, qE, L3, X3, l2, l3, hWl]
 have hl3 := Heap.lt_of_get L3
 refine ⟨⟨by rw [Heap.n_set]; omega, fun k hk1 hk2 hk3 => ?_, M3, hx3.same (by rw [Heap.n_set]; exact Nat.le_refl _) fun k hk => qB hl3 (fun e => ?_) _, fun k hk => ?_⟩, _, rfl, by simp only [Blk.size_set]; exact l2, by simp only [Blk.qY]; exact l3, ?_, fun j hj => ?_⟩
 ·have q2 : ¬ M2 k := fun h1 => (hM2 k h1).elim hk2 fun h2 => by omega
  rw [qB hl3 hk3, k3' k (by omega) q2 id, k2' k (by omega) hk2 id, kk1 k hk1]
 ·rcases hM3 k hk with h1 | h1
  ·exact nM2 (e ▸ h1)
  ·omega
 ·rcases hM3 k hk with h1 | h1
  ·exact (hM2 k h1).imp id fun h => by omega
  ·exact .inr (by omega)
 ·simp -implicitDefEqProofs (disch := first | omega | (simp -implicitDefEqProofs only [szs, ne_eq] <;> omega) | fail) only [go_sem, seval]
 ·simp only [Blk.get_set]
  rw [if_neg (by omega), if_neg (by omega), if_neg (by omega), if_neg (by omega), if_neg (by omega)]
end Go.Proofs.Ytakgjjbmniilhaa
