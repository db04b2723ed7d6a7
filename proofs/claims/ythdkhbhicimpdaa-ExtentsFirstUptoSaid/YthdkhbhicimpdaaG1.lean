/- The document's disk in the extents' seat: Write, Flush, Copy (the disk's texts, ported). -/
import Derived.Test.YthdkhbhicimpdaaF2
set_option linter.unusedVariables false
set_option maxRecDepth 100000
namespace Go.Proofs.Ythdkhbhicimpdaa
open Go Go.Vm
attribute [-go_sem] sz_113
def Rx (R : Set') (rd fb pb : Nat) : Set' := fun b => R b ∧ b ≠ rd ∧ b ≠ fb ∧ b ≠ pb
def PLs (h : Heap) (R : Set') (v : V) (ll : List (List V)) : Prop := ∃ vs, LR h R v vs ∧ vs.length = ll.length ∧ ∀ i l, ll[i]? = some l → LR h R (vs.getD i undefV) l
theorem PLs.same {h h' : Heap} {R : Set'} {v : V} {ll : List (List V)} (hp : PLs h R v ll) (hk : ∀ b, R b → b < h.n → h'.get b = h.get b) : PLs h' R v ll := by
  obtain ⟨vs, v1, v2, v3⟩ := hp
  exact ⟨vs, v1.same hk, v2, fun i l e => (v3 i l e).same hk⟩
theorem PLs.mono {h : Heap} {R R' : Set'} {v : V} {ll : List (List V)} (hp : PLs h R v ll) (hk : ∀ b, b < h.n → R b → R' b) : PLs h R' v ll := by
  obtain ⟨vs, v1, v2, v3⟩ := hp
  exact ⟨vs, v1.mono hk, v2, fun i l e => (v3 i l e).mono hk⟩
theorem PLs.nil (h : Heap) (R : Set') : PLs h R (.slice none 0 0 true) [] := ⟨[], .inl ⟨rfl, .inl rfl⟩, rfl, fun i l e => by simp at e⟩
theorem allOne_of : ∀ {l : List V}, (∀ i, i < l.length → (l.getD i undefV).one = true) → allOne l = true
  | [], _ => rfl
  | v :: l, h => by
    have h0 := h 0 (by simp)
    have h1 := allOne_of (l := l) fun i hi => by
      have := h (i + 1) (by simp; omega)
      simpa using this
    have h0' : v.one = true := by simpa using h0
    simp only [allOne, h0', h1]
structure RefX (h : Heap) (R : Set') (rd fb pb : Nat) (D : DS) : Prop where
  pos : 1 ≤ D.n ∧ D.n ≤ 4096
  r : R rd ∧ R fb ∧ R pb
  d : ∃ c xf xp, h.get rd = some (.cells c 83) ∧ c.size = 3 ∧ c.ro = false ∧ c.get 0 = .slice (some (fb, 0)) D.n D.n xf ∧ c.get 1 = .slice (some (pb, 0)) D.n D.n xp ∧ c.get 2 = .int .i64 D.wr
  f : ∃ cf, h.get fb = some (.cells cf 45) ∧ cf.size = D.n ∧ cf.ro = false ∧ ∀ s, s < D.n → LR h (Rx R rd fb pb) (cf.get s) (D.fl s)
  p : ∃ cp, h.get pb = some (.cells cp 80) ∧ cp.size = D.n ∧ cp.ro = false ∧ ∀ s, s < D.n → PLs h (Rx R rd fb pb) (cp.get s) (D.pe s)
  fl : ∀ s, s < D.n → IsSec (D.fl s)
  pe : ∀ s, ∀ l ∈ D.pe s, IsSec l
  out : ∀ s, D.n ≤ s → D.pe s = []
  few : ∀ s, (D.pe s).length ≤ 1000000000
theorem RefX.ne {h : Heap} {R : Set'} {rd fb pb : Nat} {D : DS} (hr : RefX h R rd fb pb D) : rd ≠ fb ∧ rd ≠ pb ∧ fb ≠ pb := by
  obtain ⟨c, xf, xp, d1, _⟩ := hr.d
  obtain ⟨cf, f1, _⟩ := hr.f
  obtain ⟨cp, p1, _⟩ := hr.p
  refine ⟨fun e => ?_, fun e => ?_, fun e => ?_⟩
  · rw [e, f1] at d1; cases d1
  · rw [e, p1] at d1; cases d1
  · rw [e, p1] at f1; cases f1
theorem RefX.lt {h : Heap} {R : Set'} {rd fb pb : Nat} {D : DS} (hr : RefX h R rd fb pb D) : rd < h.n ∧ fb < h.n ∧ pb < h.n := by
  obtain ⟨c, xf, xp, d1, _⟩ := hr.d
  obtain ⟨cf, f1, _⟩ := hr.f
  obtain ⟨cp, p1, _⟩ := hr.p
  exact ⟨Heap.lt_of_get d1, Heap.lt_of_get f1, Heap.lt_of_get p1⟩
theorem RefX.at {h : Heap} {R : Set'} {rd fb pb : Nat} {D : DS} (hr : RefX h R rd fb pb D) : RefAt h R rd D := by
  obtain ⟨c, xf, xp, d1, d2, d3, d4, d5, d6⟩ := hr.d
  obtain ⟨cf, f1, f2, f3, f4⟩ := hr.f
  obtain ⟨cp, p1, p2, p3, p4⟩ := hr.p
  exact ⟨hr.pos, hr.r.1, ⟨c, fb, pb, xf, xp, d1, d2, d3, d4, d5, d6, hr.r.2.1, hr.r.2.2, ⟨cf, f1, f2, f3, fun s hs => (f4 s hs).mono fun b _ h => h.1⟩, ⟨cp, p1, p2, p3, fun s hs => (p4 s hs).mono fun b _ h => h.1⟩⟩, hr.fl, hr.pe, hr.out, hr.few⟩
theorem RefX.same {h h' : Heap} {R : Set'} {rd fb pb : Nat} {D : DS} (hr : RefX h R rd fb pb D) (hk : ∀ b, R b → b < h.n → h'.get b = h.get b) : RefX h' R rd fb pb D := by
  obtain ⟨l1, l2, l3⟩ := hr.lt
  obtain ⟨hp, r, ⟨c, xf, xp, d1, d2⟩, ⟨cf, f1, f2, f3, f4⟩, ⟨cp, p1, p2, p3, p4⟩, h1, h2, h3, h4⟩ := hr
  exact ⟨hp, r, ⟨c, xf, xp, by rw [hk _ r.1 l1]; exact d1, d2⟩, ⟨cf, by rw [hk _ r.2.1 l2]; exact f1, f2, f3, fun s hs => (f4 s hs).same fun b hb => hk b hb.1⟩, ⟨cp, by rw [hk _ r.2.2 l3]; exact p1, p2, p3, fun s hs => (p4 s hs).same fun b hb => hk b hb.1⟩, h1, h2, h3, h4⟩
theorem RefX.old {h h' : Heap} {R : Set'} {rd fb pb : Nat} {D : DS} (hr : RefX h R rd fb pb D) (hk : ∀ b, b < h.n → h'.get b = h.get b) : RefX h' R rd fb pb D := hr.same fun b _ hb => hk b hb
theorem RefX.mono {h : Heap} {R R' : Set'} {rd fb pb : Nat} {D : DS} (hr : RefX h R rd fb pb D) (hk : ∀ b, b < h.n → R b → R' b) : RefX h R' rd fb pb D := by
  obtain ⟨l1, l2, l3⟩ := hr.lt
  obtain ⟨hp, r, hd, ⟨cf, f1, f2, f3, f4⟩, ⟨cp, p1, p2, p3, p4⟩, h1, h2, h3, h4⟩ := hr
  exact ⟨hp, ⟨hk _ l1 r.1, hk _ l2 r.2.1, hk _ l3 r.2.2⟩, hd, ⟨cf, f1, f2, f3, fun s hs => (f4 s hs).mono fun b hb h => ⟨hk b hb h.1, h.2⟩⟩, ⟨cp, p1, p2, p3, fun s hs => (p4 s hs).mono fun b hb h => ⟨hk b hb h.1, h.2⟩⟩, h1, h2, h3, h4⟩
def Rn (R : Set') (n n' : Nat) : Set' := fun b => R b ∨ n ≤ b ∧ b < n'
theorem RefX.setP {h h' : Heap} {S : Set'} {rd fb pb s : Nat} {D : DS} {v : V} {ll : List (List V)} {x : Int} (hr : RefX h S rd fb pb D) (hs : s < D.n) (hv : PLs h (Rx S rd fb pb) v ll) (hll : ∀ l ∈ ll, IsSec l) (hlen : ll.length ≤ 1000000000)
    (kd : ∃ c c', h.get rd = some (.cells c 83) ∧ h'.get rd = some (.cells c' 83) ∧ c'.size = c.size ∧ c'.ro = c.ro ∧ c'.get 0 = c.get 0 ∧ c'.get 1 = c.get 1 ∧ c'.get 2 = .int .i64 x)
    (kp : ∃ cp, h.get pb = some (.cells cp 80) ∧ h'.get pb = some (.cells (cp.set s v) 80)) (hk : ∀ b, b ≠ rd → b ≠ pb → b < h.n → h'.get b = h.get b) : RefX h' S rd fb pb { D with pe := fun y => if y = s then ll else D.pe y, wr := x } := by
  obtain ⟨e1, e2, e3⟩ := hr.ne
  obtain ⟨hp, r, ⟨c, xf, xp, d1, d2, d3, d4, d5, d6⟩, ⟨cf, f1, f2, f3, f4⟩, ⟨cp, p1, p2, p3, p4⟩, h1, h2, h3, h4⟩ := hr
  obtain ⟨c0, c', k0, k1, k2, k3, k4, k5, k6⟩ := kd
  rw [d1] at k0; cases k0
  obtain ⟨cp0, q0, q1⟩ := kp
  rw [p1] at q0; cases q0
  have hx : ∀ b, Rx S rd fb pb b → b < h.n → h'.get b = h.get b := fun b hb hlt => hk b hb.2.1 hb.2.2.2 hlt
  refine ⟨hp, r, ⟨c', xf, xp, k1, by rw [k2]; exact d2, by rw [k3]; exact d3, by rw [k4]; exact d4, by rw [k5]; exact d5, k6⟩, ⟨cf, by rw [hk _ (Ne.symm e1) e3 (Heap.lt_of_get f1)]; exact f1, f2, f3, fun y hy => (f4 y hy).same hx⟩, ⟨_, q1, by rw [Blk.size_set]; exact p2, by rw [Blk.ro_set]; exact p3, fun y hy => ?_⟩, h1, fun y l hl => ?_, fun y hy => ?_, fun y => ?_⟩
  · have hy : y < D.n := hy
    by_cases hys : y = s
    · subst hys
      rw [w_bset_eq rfl]
      show PLs h' _ v (if y = y then ll else D.pe y)
      rw [if_pos rfl]
      exact hv.same hx
    · rw [w_bset_ne hys]
      show PLs h' _ _ (if y = s then ll else D.pe y)
      rw [if_neg hys]
      exact (p4 y hy).same hx
  · simp only [] at hl
    split at hl
    · exact hll l hl
    · exact h2 y l hl
  · have hy : D.n ≤ y := hy
    simp only []
    rw [if_neg (by omega)]; exact h3 y hy
  · simp only []
    split
    · exact hlen
    · exact h4 y
theorem PLs.one {h : Heap} {R : Set'} {vs : List V} {ll : List (List V)} (hl : vs.length = ll.length) (h3 : ∀ i l, ll[i]? = some l → LR h R (vs.getD i undefV) l) : allOne vs = true := allOne_of fun i hi => by
  have := h3 i (ll[i]'(by omega)) (by rw [List.getElem?_eq_getElem])
  exact this.one
theorem rdwrite_bad {h : Heap} {R W S : Set'} {rd : Nat} {D : DS} (hr : RefAt h S rd D) (hR : ∀ b, R b) {k : Int} {v : V} {m : Nat} (hv : ∀ h, lenV Try.prog 45 v h = some (m, [])) (hk : ¬ ((0 ≤ k ∧ k < D.n) ∧ m = 128)) : SF Try.prog 70 [.ptr (some (rd, 0)), .int .i64 k, v] h R W fun v h' => v = .int .i64 2 ∧ h' = h := by
  refine SF.go hm Try.func70 ir70_eq ?_
  simp -implicitDefEqProofs (disch := (first | omega | fail)) only [go_sem, Nat.reduceAdd, Nat.reduceSub, Nat.reduceLT, Nat.reduceMod, Nat.reduceDiv, ↓reduceIte, reduceCtorEq, ir70]
  refine GCall.of (rdin_ok hr (fun b => .inr (hR b)) k) ?_
  rintro v' g ⟨rfl, rfl⟩
  by_cases h0 : 0 ≤ k ∧ k < D.n
  · rw [decide_eq_true h0]
    have hm2 : (m : Int) ≠ 128 := by omega
    simp -implicitDefEqProofs (disch := (first | omega | fail)) only [go_sem, Nat.reduceAdd, Nat.reduceSub, Nat.reduceLT, Nat.reduceMod, Nat.reduceDiv, ↓reduceIte, reduceCtorEq, ↓hv]
  · rw [decide_eq_false h0]
    simp -implicitDefEqProofs (disch := (first | omega | fail)) only [go_sem, Nat.reduceAdd, Nat.reduceSub, Nat.reduceLT, Nat.reduceMod, Nat.reduceDiv, ↓reduceIte, reduceCtorEq, undefV]
theorem ap_81 : apT Try.prog 81 81 = some (80, 1, 24) := by kernel_rfl
theorem getD_app_left {l m : List V} {i : Nat} (h : i < l.length) : (l ++ m).getD i undefV = l.getD i undefV := by
  rw [List.getD_eq_getElem?_getD, List.getD_eq_getElem?_getD, List.getElem?_append_left h]
theorem PLs.snoc {h : Heap} {R : Set'} {v v2 : V} {vs : List V} {ll : List (List V)} {l : List V} (hv : LR h R v (vs ++ [v2])) (hl : vs.length = ll.length) (h3 : ∀ i l, ll[i]? = some l → LR h R (vs.getD i undefV) l) (h2 : LR h R v2 l) : PLs h R v (ll ++ [l]) := by
  refine ⟨_, hv, by simp [hl], fun i m e => ?_⟩
  by_cases hi : i < ll.length
  · rw [List.getElem?_append_left hi] at e
    rw [getD_app_left (by omega)]
    exact h3 i m e
  · rw [List.getElem?_append_right (by omega)] at e
    have hi2 : i = ll.length := by
      have := (List.getElem?_eq_some_iff.1 e).1
      simp at this; omega
    subst hi2
    simp at e; subst e
    rw [List.getD_eq_getElem?_getD, List.getElem?_append_right (by omega), show ll.length - vs.length = 0 by omega]
    exact h2
set_option maxHeartbeats 1000000 in
theorem rdwrite_ok {h : Heap} {R W S : Set'} {rd fb pb : Nat} {D : DS} (hr : RefX h S rd fb pb D) (hR : ∀ b, R b) (hW : ∀ b, S b → W b) {s : Nat} (hs : s < D.n) {v : V} {l : List V} (hv : LR h (fun _ => True) v l) (hl : IsSec l) (few : (D.pe s).length < 1000000000) :
    SF Try.prog 70 [.ptr (some (rd, 0)), .int .i64 s, v] h R W fun v h' => v = .int .i64 0 ∧ RefX h' (Rn S h.n h'.n) rd fb pb (D.write s l) := by
  obtain ⟨l1, l2, l3⟩ := hr.lt
  obtain ⟨e1, e2, e3⟩ := hr.ne
  obtain ⟨c, xf, xp, d1, d2, d3, d4, d5, d6⟩ := hr.d
  obtain ⟨cp, p1, p2, p3, p4⟩ := hr.p
  obtain ⟨vs, v1, vl, v3⟩ := p4 s hs
  have hN := secN_eq
  have hsl := hl.1
  have hlv := hv.lenV Try.underlying45
  have hWr := hW rd hr.r.1
  have hWp := hW pb hr.r.2.2
  have hRr := hR rd
  have hRp := hR pb
  obtain ⟨x1, rs1, x2, _⟩ := first_lr v1
  obtain ⟨a1, g1, r1, w1, hap1, o1, m1, k1, hw1, kk1, _⟩ := app_own (n0 := h.n) (h := h) (v := .slice none 0 0 true) (x := cp.get s) (l := []) (e := 45) (bytes := 24) (Own.nil _ _ _) (Nat.le_refl _) x1 x2 (PLs.one vl v3) (by simp only [List.length_nil]; omega) (by simp only [List.length_nil]; omega)
  rw [List.nil_append] at o1
  obtain ⟨y1, rs2, y2, _⟩ := first_lr (hv.old k1)
  obtain ⟨a2, g2, r2, w2, hap2, o2, m2, k2, hw2, kk2, _⟩ := app_own (n0 := g1.n) (h := g1) (v := .slice none 0 0 true) (x := v) (l := []) (e := 5) (bytes := 1) (Own.nil _ _ _) (Nat.le_refl _) y1 y2 hl.one (by simp only [List.length_nil]; omega) (by simp only [List.length_nil]; omega)
  rw [List.nil_append] at o2
  have one2 : allOne [a2] = true := by have := o2.lr.one; simp only [allOne, this]
  obtain ⟨a3, g3, r3, w3, hap3, o3, m3, k3, hw3, kk3, ht3⟩ := app_own (n0 := h.n) (h := g2.push (.cells (Blk.of [a2]) 45)) (v := a1) (x := .slice (some (g2.n, 0)) 1 1 true) (l := vs) (news := [a2]) (e := 45) (bytes := 24) ((o1.old k2).old fun b hb => w_push_ne (by omega) _) (by simp; omega) rfl (first_one (e := 45) (w_push_eq rfl _)) one2 (by simp only [List.length_cons, List.length_nil]; omega) (by simp only [List.length_cons, List.length_nil]; omega)
  have m3' : g2.n + 1 ≤ g3.n := by simpa using m3
  have o2' : Own g1.n g3 a2 l 5 := o2.keep fun b c' e => by
    have hb := Heap.lt_of_get e
    rw [kk3 b (by simp; omega) (fun hb' => by
      obtain ⟨c2, e2⟩ := ht3 b hb'
      rw [w_push_ne (by omega), e] at e2; cases e2), w_push_ne (by omega)]
    exact e
  have k03 : ∀ b, b < h.n → g3.get b = h.get b := fun b hb => by rw [k3 b hb, w_push_ne (by omega), k2 b (by omega), k1 b hb]
  have d1' := (k03 rd l1).trans d1
  have p1' := (k03 pb l3).trans p1
  have hcv := o3.lr.cells
  have hon := o3.lr.one
  have hcv2 := o2.lr.cells
  have hon2 := o2.lr.one
  have hr3 := (hr.old k03).mono (R' := Rn S h.n g3.n) fun b _ h => .inl h
  have lt1 := Heap.lt_of_get d1'
  have lt3 := Heap.lt_of_get p1'
  refine SF.go hm Try.func70 ir70_eq ?_
  simp -implicitDefEqProofs (disch := (first | omega | fail)) only [go_sem, Nat.reduceAdd, Nat.reduceSub, Nat.reduceLT, Nat.reduceMod, Nat.reduceDiv, ↓reduceIte, reduceCtorEq, ir70]
  refine GCall.of (rdin_ok hr.at (fun b => .inr (hR b)) s) ?_
  rintro v' g ⟨rfl, rfl⟩
  rw [decide_eq_true (show 0 ≤ (s : Int) ∧ (s : Int) < D.n by omega)]
  simp -implicitDefEqProofs (disch := (first | omega | fail)) only [go_sem, Nat.reduceAdd, Nat.reduceSub, Nat.reduceLT, Nat.reduceMod, Nat.reduceDiv, ↓reduceIte, reduceCtorEq, undefV, ↓hlv, d1, d2, d3, d5, d6, p1, p2, p3, hRr, hRp, hWr, hWp, appendV_of ap_80, appendV_of ap_45, hap1, hap2, hap3, ↓hcv, ↓hon, ↓hcv2, d1', p1']
  have hx1 : ∀ b, b < g3.n → g.n ≤ b → Rx (Rn S g.n g3.n) rd fb pb b := fun b h1 h2 => ⟨.inr ⟨h2, h1⟩, by omega, by omega, by omega⟩
  have hx2 : ∀ b, b < g3.n → Rx S rd fb pb b → Rx (Rn S g.n g3.n) rd fb pb b := fun b h1 h2 => ⟨.inl h2.1, h2.2⟩
  refine ⟨?_, ?_, hr3.setP hs (PLs.snoc (o3.lr.mono hx1) vl (fun i l e => ((v3 i l e).old k03).mono hx2) (o2'.lr.mono fun b h1 h2 => hx1 b h1 (by omega))) (fun l' hl' => ?_) (by simp; omega) ⟨c, _, d1', w_set_eq (by rw [Heap.n_set]; exact lt1) rfl _, by rw [Blk.size_set], by rw [Blk.ro_set], by simp -implicitDefEqProofs (disch := (first | omega | fail)) only [go_sem], by simp -implicitDefEqProofs (disch := (first | omega | fail)) only [go_sem], w_bset_eq rfl _⟩ ⟨cp, p1', ?_⟩ (fun b h1 h2 h3 => ?_)⟩
  · simp only [List.not_mem_nil, or_false, false_or, and_false, false_implies, implies_true, not_false_eq_true, List.mem_cons, and_true, true_and]
    and_intros
    all_goals (intro b hb; first | omega | (intro hc; first | omega | (have := hw1 _ hb.2; omega) | (have := hw2 _ hb.2; omega) | (have := hw3 _ hb.2; omega)))
  · and_intros
    all_goals (intros; first | exact .inr (hR _) | (have := hw1 _ (by assumption); exact .inl this) | (have := hw2 _ (by assumption); exact .inl (by omega)) | (have := hw3 _ (by assumption); exact .inl this))
  · rcases List.mem_append.1 hl' with h1 | h1
    · exact hr.pe s l' h1
    · simp at h1; rw [h1]; exact hl
  · rw [w_set_ne (by rw [Heap.n_set]; exact lt1) (Ne.symm e2)]; exact w_set_eq lt3 rfl _
  · rw [w_set_ne (by rw [Heap.n_set]; exact lt1) h1, w_set_ne lt3 h2]
theorem RefX.setF {h h' : Heap} {S : Set'} {rd fb pb s : Nat} {D : DS} {v : V} {l : List V} (hr : RefX h S rd fb pb D) (hs : s < D.n) (hv : LR h (Rx S rd fb pb) v l) (hl : IsSec l)
    (kf : ∃ cf, h.get fb = some (.cells cf 45) ∧ h'.get fb = some (.cells (cf.set s v) 45)) (hk : ∀ b, b ≠ fb → b < h.n → h'.get b = h.get b) : RefX h' S rd fb pb { D with fl := fun y => if y = s then l else D.fl y } := by
  obtain ⟨e1, e2, e3⟩ := hr.ne
  obtain ⟨hp, r, ⟨c, xf, xp, d1, d2, d3, d4, d5, d6⟩, ⟨cf, f1, f2, f3, f4⟩, ⟨cp, p1, p2, p3, p4⟩, h1, h2, h3, h4⟩ := hr
  obtain ⟨cf0, q0, q1⟩ := kf
  rw [f1] at q0; cases q0
  have hx : ∀ b, Rx S rd fb pb b → b < h.n → h'.get b = h.get b := fun b hb hlt => hk b hb.2.2.1 hlt
  refine ⟨hp, r, ⟨c, xf, xp, by rw [hk _ e1 (Heap.lt_of_get d1)]; exact d1, d2, d3, d4, d5, d6⟩, ⟨_, q1, by rw [Blk.size_set]; exact f2, by rw [Blk.ro_set]; exact f3, fun y hy => ?_⟩, ⟨cp, by rw [hk _ (Ne.symm e3) (Heap.lt_of_get p1)]; exact p1, p2, p3, fun y hy => (p4 y hy).same hx⟩, fun y hy => ?_, h2, h3, h4⟩
  · have hy : y < D.n := hy
    show LR h' _ _ (if y = s then l else D.fl y)
    by_cases hys : y = s
    · subst hys
      rw [w_bset_eq rfl, if_pos rfl]
      exact hv.same hx
    · rw [w_bset_ne hys, if_neg hys]
      exact (f4 y hy).same hx
  · show IsSec (if y = s then l else D.fl y)
    split
    · exact hl
    · exact h1 y hy
theorem Rn_mono {S : Set'} {n n1 n2 b : Nat} (h : Rn S n n1 b) (hn : n1 ≤ n2) : Rn S n n2 b := h.imp id fun h => ⟨h.1, by omega⟩
set_option maxHeartbeats 1000000 in
theorem rdflush_ok {h : Heap} {R W S : Set'} {rd fb pb : Nat} {D : DS} (hr : RefX h S rd fb pb D) (hR : ∀ b, R b) (hW : ∀ b, S b → W b) {a m : Nat} (ham : a + m ≤ D.n) :
    SF Try.prog 71 [.ptr (some (rd, 0)), .int .i64 a, .int .i64 m] h R W fun v h' => v = .int .i64 0 ∧ RefX h' (Rn S h.n h'.n) rd fb pb (D.flush a m) := by
  obtain ⟨l1, l2, l3⟩ := hr.lt
  obtain ⟨e1, e2, e3⟩ := hr.ne
  have hp := hr.pos
  have hN := secN_eq
  have hWf := hW fb hr.r.2.1
  have hWp := hW pb hr.r.2.2
  have hRr := hR rd
  have hRp := hR pb
  have hRf := hR fb
  obtain ⟨c, xf, xp, d1, d2, d3, d4, d5, d6⟩ := hr.d
  refine SF.go hm Try.func71 ir71_eq ?_
  simp -implicitDefEqProofs (disch := (first | omega | fail)) only [go_sem, Nat.reduceAdd, Nat.reduceSub, Nat.reduceLT, Nat.reduceMod, Nat.reduceDiv, ↓reduceIte, reduceCtorEq, ir71, d1, d2, d4, hRr]
  refine GLoop.inv hm (fun k f g => f.mks = [] ∧ f.tm.n = 60 ∧ f.tm.get 0 = some (.ptr (some (rd, 0))) ∧ f.tm.get 1 = some (.int .i64 a) ∧ f.tm.get 2 = some (.int .i64 m) ∧ ∃ j : Nat, j + k = m ∧ f.tm.get 7 = some (.int .i64 ((a : Int) + j)) ∧ h.n ≤ g.n ∧ RefX g (Rn S h.n g.n) rd fb pb (D.flush a j)) m ?_ ?_
  · exact ⟨rfl, rfl, by simp -implicitDefEqProofs (disch := (first | omega | fail)) only [go_sem, ↓reduceIte], by simp -implicitDefEqProofs (disch := (first | omega | fail)) only [go_sem, Nat.reduceDiv, ↓reduceIte, reduceCtorEq], by simp -implicitDefEqProofs (disch := (first | omega | fail)) only [go_sem, Nat.reduceSub, Nat.reduceMod, Nat.reduceDiv, ↓reduceIte, reduceCtorEq], 0, by omega, by simp -implicitDefEqProofs (disch := (first | omega | fail)) only [go_sem, Nat.reduceMod, Nat.reduceDiv, ↓reduceIte, reduceCtorEq]; simp, Nat.le_refl _, by rw [DS.flush_zero]; exact hr.mono fun b _ h => .inl h⟩
  clear d1 d2 d3 d4 d5 d6 c xf xp
  rintro k ⟨⟨n', tr⟩, mks⟩ g ⟨hmk, hn', t0, t1, t2, j, hjk, t7, hgn, hx⟩
  simp only [Tm.get_mk] at hmk hn' t0 t1 t2 t7
  subst hmk hn'
  rw [show (a : Int) + j = ((a + j : Nat) : Int) by omega] at t7
  by_cases hjm : j < m
  · obtain ⟨c, xf, xp, d1, d2, d3, d4, d5, d6⟩ := hx.d
    obtain ⟨cf, f1, f2, f3, f4⟩ := hx.f
    obtain ⟨cp, p1, p2, p3, p4⟩ := hx.p
    have hDn : (D.flush a j).n = D.n := rfl
    rw [hDn] at d4 d5 f2 p2
    have hlt : a + j < (D.flush a j).n := by rw [hDn]; omega
    simp -implicitDefEqProofs (disch := (first | omega | fail)) only [go_sem, Nat.reduceAdd, Nat.reduceLT, Nat.reduceEqDiff, ↓reduceIte, reduceCtorEq, ir71_l0, t0, t1, t2, t7, d1, d2, d4]
    refine GCallD.of (R' := R) (W' := fun _ => False) (rseen_ok hx.at hR hlt) ?_
    rintro v g1 ⟨hv, rfl⟩
    have hsec : IsSec ((D.flush a j).seen (a + j)) := by
      by_cases he : (D.flush a j).pe (a + j) = []
      · rw [DS.seen_nil he]; exact hx.fl _ hlt
      · exact hx.pe (a + j) _ (List.mem_of_getElem? (DS.seen_get he))
    have hsl := hsec.1
    obtain ⟨x1, rs1, x2, _⟩ := first_lr hv
    obtain ⟨a1, g2, r1, w1, hap1, o1, m1, k1, hw1, kk1, _⟩ := app_own (n0 := g1.n) (h := g1) (v := .slice none 0 0 true) (x := v) (l := []) (e := 5) (bytes := 1) (Own.nil _ _ _) (Nat.le_refl _) x1 x2 hsec.one (by simp only [List.length_nil]; omega) (by simp only [List.length_nil]; omega)
    rw [List.nil_append] at o1
    have hcv := o1.lr.cells
    have hon := o1.lr.one
    have d1' := (k1 _ (Heap.lt_of_get d1)).trans d1
    have f1' := (k1 _ (Heap.lt_of_get f1)).trans f1
    have p1' := (k1 _ (Heap.lt_of_get p1)).trans p1
    have lt1 := Heap.lt_of_get d1'
    have lt2 := Heap.lt_of_get f1'
    have lt3 := Heap.lt_of_get p1'
    have hRT : ∀ b, R b = True := fun b => eq_true (hR b)
    simp -implicitDefEqProofs (disch := (first | omega | fail)) only [go_sem, Nat.reduceAdd, Nat.reduceLT, Nat.reduceEqDiff, ↓reduceIte, reduceCtorEq, t0, t1, t2, t7, d2, d5, hRr, appendV_of ap_45, hap1, ↓hcv, ↓hon, d1', f1', f2, f3, hWf, hWp, p1', p2, p3]
    have hx2 : RefX g2 (Rn S h.n g2.n) rd fb pb (D.flush a j) := (hx.old k1).mono fun b _ h => Rn_mono h (by omega)
    have hx3 := hx2.setF (h' := g2.set fb (.cells (cf.set (a + j) a1) 45)) hlt (o1.lr.mono fun b h1 h2 => ⟨.inr ⟨by omega, h1⟩, by omega, by omega, by omega⟩) hsec ⟨cf, f1', w_set_eq lt2 rfl _⟩ (fun b h1 _ => w_set_ne lt2 h1 _)
    have hx4 := hx3.setP (h' := (g2.set fb (.cells (cf.set (a + j) a1) 45)).set pb (.cells (cp.set (a + j) (.slice none 0 0 true)) 80)) (ll := []) (x := D.wr) hlt (PLs.nil _ _) (fun l hl => by cases hl) (by simp) ⟨c, c, by rw [w_set_ne lt2 e1]; exact d1', by rw [w_set_ne (by rw [Heap.n_set]; exact lt3) e2, w_set_ne lt2 e1]; exact d1', rfl, rfl, rfl, rfl, d6⟩ ⟨cp, by rw [w_set_ne lt2 (Ne.symm e3)]; exact p1', w_set_eq (by rw [Heap.n_set]; exact lt3) rfl _⟩ (fun b h1 h2 _ => w_set_ne (by rw [Heap.n_set]; exact lt3) h2 _)
    refine ⟨?_, ?_, k - 1, by omega, j + 1, by omega, congrArg _ (by omega), by omega, ?_⟩
    · simp only [List.not_mem_nil, or_false, false_or, and_false, false_implies, implies_true, not_false_eq_true, List.mem_cons, and_true]
      and_intros
      all_goals (intro b hb; first | omega | (intro hc; first | omega | (have := hw1 _ hb.2; omega)))
    · and_intros
      all_goals (intros; first | exact .inr (hR _) | (have := hw1 _ (by assumption); exact .inl (by omega)) | exact (by assumption : False).elim)
    · rw [← DS.flush_succ]
      exact hx4
  · obtain rfl : j = m := by omega
    simp -implicitDefEqProofs (disch := (first | omega | fail)) only [go_sem, Nat.reduceAdd, Nat.reduceLT, Nat.reduceEqDiff, ↓reduceIte, ir71_l0, t1, t2, t7]
    exact hx
set_option maxHeartbeats 1000000 in
theorem rdcopy_ok {h : Heap} {R W S : Set'} {rd fb pb : Nat} {D : DS} (hr : RefX h S rd fb pb D) (hR : ∀ b, R b) :
    SF Try.prog 57 [.ptr (some (rd, 0))] h R W fun v h' => ∃ rd' fb' pb', v = .ptr (some (rd', 0)) ∧ h.n ≤ rd' ∧ h.n ≤ fb' ∧ h.n ≤ pb' ∧ RefX h' (Rn S h.n h'.n) rd' fb' pb' D ∧ h.n ≤ h'.n ∧ ∀ b, b < h.n → h'.get b = h.get b := by
  obtain ⟨l1, l2, l3⟩ := hr.lt
  obtain ⟨e1, e2, e3⟩ := hr.ne
  have hp := hr.pos
  have hRr := hR rd
  obtain ⟨c, xf, xp, d1, d2, d3, d4, d5, d6⟩ := hr.d
  obtain ⟨cf, f1, f2, f3, f4⟩ := hr.f
  obtain ⟨cp, p1, p2, p3, p4⟩ := hr.p
  have lf : LR h (fun b => b = fb) (.slice (some (fb, 0)) D.n D.n xf) (cf.gets 0 D.n) := .inr ⟨fb, 0, D.n, xf, cf, 45, by rw [Blk.length_gets], rfl, f1, by rw [Blk.length_gets]; omega, by rw [Blk.length_gets]⟩
  have lp : LR h (fun b => b = pb) (.slice (some (pb, 0)) D.n D.n xp) (cp.gets 0 D.n) := .inr ⟨pb, 0, D.n, xp, cp, 80, by rw [Blk.length_gets], rfl, p1, by rw [Blk.length_gets]; omega, by rw [Blk.length_gets]⟩
  have gD : ∀ (c : Blk) (i : Nat), i < D.n → (c.gets 0 D.n).getD i undefV = c.get i := fun c i hi => by
    rw [List.getD_eq_getElem?_getD, Blk.gets_get _ _ _ _ hi, Nat.zero_add]; rfl
  have one1 : allOne (cf.gets 0 D.n) = true := allOne_of fun i hi => by
    rw [Blk.length_gets] at hi
    rw [gD _ _ hi]; exact (f4 i hi).one
  have one2 : allOne (cp.gets 0 D.n) = true := allOne_of fun i hi => by
    rw [Blk.length_gets] at hi
    rw [gD _ _ hi]
    obtain ⟨vs, v1, _⟩ := p4 i hi
    exact v1.one
  obtain ⟨x1, rs1, x2, _⟩ := first_lr lf
  obtain ⟨a1, g1, r1, w1, hap1, o1, m1, k1, hw1, kk1, _⟩ := app_own (n0 := h.n) (h := h) (v := .slice none 0 0 true) (x := .slice (some (fb, 0)) D.n D.n xf) (l := []) (e := 45) (bytes := 24) (Own.nil _ _ _) (Nat.le_refl _) x1 x2 one1 (by simp only [List.length_nil, Blk.length_gets]; omega) (by simp only [List.length_nil, Blk.length_gets]; omega)
  rw [List.nil_append] at o1
  obtain ⟨y1, rs2, y2, _⟩ := first_lr (lp.old k1)
  obtain ⟨a2, g2, r2, w2, hap2, o2, m2, k2, hw2, kk2, _⟩ := app_own (n0 := g1.n) (h := g1) (v := .slice none 0 0 true) (x := .slice (some (pb, 0)) D.n D.n xp) (l := []) (e := 80) (bytes := 24) (Own.nil _ _ _) (Nat.le_refl _) y1 y2 one2 (by simp only [List.length_nil, Blk.length_gets]; omega) (by simp only [List.length_nil, Blk.length_gets]; omega)
  rw [List.nil_append] at o2
  have d1' := (k1 rd l1).trans d1
  have k12 : ∀ b, b < h.n → g2.get b = h.get b := fun b hb => by rw [k2 b (by omega), k1 b hb]
  have d1'' := (k12 rd l1).trans d1
  have o1' := o1.old k2
  have hcv1 := o1.lr.cells
  have hon1 := o1.lr.one
  have hcv2 := o2.lr.cells
  have hon2 := o2.lr.one
  refine SF.go hm Try.func57 ir57_eq ?_
  simp -implicitDefEqProofs (disch := (first | omega | fail)) only [go_sem, Nat.reduceAdd, Nat.reduceSub, Nat.reduceLT, Nat.reduceMod, Nat.reduceDiv, Nat.reduceLeDiff, ↓reduceIte, reduceCtorEq, ir57, d1, d2, d4, hRr, d1', d5, d1'', d6, appendV_of ap_80, appendV_of ap_81, hap1, hap2, ↓hcv1, ↓hcv2]
  rcases o1' with ⟨h0, _⟩ | ⟨fb', x1', c1', h0, rfl, q1, q2, q3, q4, q5⟩
  · have := congrArg List.length h0
    rw [Blk.length_gets, List.length_nil] at this; omega
  rcases o2 with ⟨h0', _⟩ | ⟨pb', x2', c2', h0', rfl, u1, u2, u3, u4, u5⟩
  · have := congrArg List.length h0'
    rw [Blk.length_gets, List.length_nil] at this; omega
  rw [Blk.length_gets] at q3 q5 u3 u5
  have cg1 : ∀ s, s < D.n → c1'.get s = cf.get s := fun s hs => by
    have := congrArg (fun l => List.getD l s undefV) q5
    simp only [gD _ _ hs] at this; exact this
  have cg2 : ∀ s, s < D.n → c2'.get s = cp.get s := fun s hs => by
    have := congrArg (fun l => List.getD l s undefV) u5
    simp only [gD _ _ hs] at this; exact this
  have lt1 := Heap.lt_of_get q2
  have lt2 := Heap.lt_of_get u2
  have kp : ∀ b, b < h.n → (g2.push (O.cells (Blk.of [V.slice (some (fb', 0)) (cf.gets 0 D.n).length (cf.gets 0 D.n).length x1', V.slice (some (pb', 0)) (cp.gets 0 D.n).length (cp.gets 0 D.n).length x2', V.int IntKind.i64 D.wr]) 83)).get b = h.get b := fun b hb => by rw [w_push_ne (by omega), k12 b hb]
  have hRx : ∀ b, b < h.n → Rx S rd fb pb b → Rx (Rn S h.n (g2.n + 1)) g2.n fb' pb' b := fun b h1 h2 => ⟨.inl h2.1, by omega, by omega, by omega⟩
  refine ⟨?_, ?_, g2.n, fb', pb', rfl, by omega, q1, by omega, ⟨hp, ⟨.inr ⟨by omega, by omega⟩, .inr ⟨q1, by omega⟩, .inr ⟨by omega, by omega⟩⟩, ⟨_, x1', x2', w_push_eq rfl _, rfl, rfl, ?_, ?_, rfl⟩, ⟨c1', by rw [w_push_ne (by omega)]; exact q2, q3, q4, fun s hs => ?_⟩, ⟨c2', by rw [w_push_ne (by omega)]; exact u2, u3, u4, fun s hs => ?_⟩, hr.fl, hr.pe, hr.out, hr.few⟩, by omega, kp⟩
  · simp only [List.not_mem_nil, or_false, and_false, false_implies, implies_true, not_false_eq_true, List.mem_cons, and_true, true_and]
    and_intros
    all_goals (intro b hb; first | omega | (intro hc; rcases hb with hb | hb <;> first | omega | (have := hw1 _ hb.2; omega) | (have := hw2 _ hb.2; omega)))
  · and_intros
    all_goals (intros; first | exact .inr (hR _) | (have := hw1 _ (by assumption); exact .inl (by omega)) | (have := hw2 _ (by assumption); exact .inl (by omega)))
  · simp [Blk.length_gets]; rfl
  · simp [Blk.length_gets]; rfl
  · rw [cg1 s hs]
    exact ((f4 s hs).mono hRx).old kp
  · rw [cg2 s hs]
    exact ((p4 s hs).mono hRx).same fun b _ hb => kp b hb
end Go.Proofs.Ythdkhbhicimpdaa
