/- ExtentsFirst: the lowest free run, reckoned by the law; the law. -/
import Derived.Test.YthdkhbhicimpdaaFH
set_option linter.unusedVariables false
set_option maxRecDepth 100000
namespace Go.Proofs.Ythdkhbhicimpdaa
open Go Go.Vm
attribute [-go_sem] sz_113
theorem cntB_full {f : Nat → Bool} : ∀ {k : Nat}, cntB f k = k → ∀ s, s < k → f s = true
  | 0, _, s, hs => by omega
  | k + 1, h, s, hs => by
    have h1 := cntB_le f k
    simp only [cntB] at h
    cases hf : f k with
    | false => rw [hf] at h; simp at h; omega
    | true =>
      rw [hf] at h
      simp at h
      by_cases e : s = k
      · rw [e]; exact hf
      · exact cntB_full h s (by omega)
theorem cntB_all {f : Nat → Bool} : ∀ {k : Nat}, (∀ s, s < k → f s = true) → cntB f k = k
  | 0, _ => rfl
  | k + 1, h => by
    have h1 := cntB_all (f := f) (k := k) fun s hs => h s (by omega)
    have h2 := h k (by omega)
    simp [cntB, h1, h2]
theorem take_one {X : XS} {v : V} {Y : XS} (hn : X.n = 1) (h : TQ X 0 1 v Y) : (v = .tuple [.int .i64 0, .int .i64 5] ∧ cntB (X.has 0) (X.count 0) = X.count 0) ∨ ∃ f : Nat, v = .tuple [.int .i64 f, .int .i64 0] ∧ cntB (X.has 0) (X.count 0) ≠ X.count 0 := by
  rcases h with ⟨h1, _⟩ | ⟨i, N, r, e1, e2, h1, h2, h3, rfl, _⟩
  · omega
  · obtain rfl : i = 0 := by omega
    obtain rfl : N = 1 := by omega
    cases r with
    | none =>
      refine .inl ⟨rfl, cntB_all fun s hs => ?_⟩
      obtain ⟨s', a, b, c⟩ := h3 s (by omega)
      obtain rfl : s' = s := by omega
      exact c
    | some f =>
      refine .inr ⟨f, rfl, fun hc => ?_⟩
      have := cntB_full hc f (by have := h3.1.1; omega)
      rw [h3.1.2 f (by omega) (by omega)] at this
      cases this
def LowI (hs : Nat → Bool) (cnt n i : Nat) (L : Int) : Prop := (L = -1 ∧ ∀ f', i ≤ f' → f' + n ≤ cnt → ∃ s, f' ≤ s ∧ s < f' + n ∧ hs s = true) ∨ ∃ f : Nat, L = f ∧ i ≤ f ∧ (f + n ≤ cnt ∧ ∀ s, f ≤ s → s < f + n → hs s = false) ∧ ∀ f', i ≤ f' → f' < f → ∃ s, f' ≤ s ∧ s < f' + n ∧ hs s = true
theorem LowI.take {hs : Nat → Bool} {cnt n : Nat} {L : Int} (h : LowI hs cnt n 0 L) {r : Option Nat} (hr : TakeQ hs cnt n r) : (L = -1 ∧ r = none) ∨ ∃ f : Nat, L = f ∧ r = some f := by
  rcases h with ⟨rfl, h⟩ | ⟨f, rfl, _, h1, h2⟩
  · exact .inl ⟨rfl, hr.one (r' := none) fun f' hf => h f' (Nat.zero_le _) hf⟩
  · exact .inr ⟨f, rfl, hr.one (r' := some f) ⟨h1, fun f' hf => h2 f' (Nat.zero_le _) hf⟩⟩
set_option maxHeartbeats 2000000 in
theorem low_loop {g : Heap} {R W : Set'} {Q : Ex → Fr → Heap → Prop} {t : List It} {cnt n wb : Nat} {hs : Nat → Bool} {c : Blk} {ex : Bool} {v13 v16 : V} (hb : g.get wb = some (.cells c 4)) (hsz : c.size = cnt) (hg : ∀ s, s < cnt → c.get s = .bool (hs s)) (hR : ∀ b, R b) (hcnt : cnt ≤ 64) (hn1 : 1 ≤ n) (hn : n ≤ 9223372036854775807)
    (hk : ∀ (tr : Tr V) (L : Int), LowI hs cnt n 0 L → tr.get 13 = some v13 → tr.get 16 = some v16 → tr.get 17 = some (.int .i64 L) → resume ⟨Try.prog, true⟩ R W none Q t (.exit 2) ⟨⟨168, tr⟩, []⟩ g)
    {f : Fr} (g0 : f.mks = []) (g1 : f.tm.n = 168) (f0 : f.tm.get 0 = some (.int .i64 cnt)) (f2 : f.tm.get 2 = some (.int .i64 n)) (f13 : f.tm.get 13 = some v13) (f15 : f.tm.get 15 = some (.slice (some (wb, 0)) cnt cnt ex)) (f16 : f.tm.get 16 = some v16) (f17 : f.tm.get 17 = some (.int .i64 (-1))) (f18 : f.tm.get 18 = some (.int .i64 ((cnt : Int) - 1))) :
    GLoop ⟨Try.prog, true⟩ R W none Q ir6_l2 t f g := by
  have hRb := hR wb
  refine GLoop.inv hm (fun k f h' => h' = g ∧ f.mks = [] ∧ f.tm.n = 168 ∧ f.tm.get 0 = some (.int .i64 cnt) ∧ f.tm.get 2 = some (.int .i64 n) ∧ f.tm.get 13 = some v13 ∧ f.tm.get 15 = some (.slice (some (wb, 0)) cnt cnt ex) ∧ f.tm.get 16 = some v16 ∧ k ≤ cnt ∧ f.tm.get 18 = some (.int .i64 ((k : Int) - 1)) ∧ ∃ L, f.tm.get 17 = some (.int .i64 L) ∧ LowI hs cnt n k L) cnt ?_ ?_
  · exact ⟨rfl, g0, g1, f0, f2, f13, f15, f16, Nat.le_refl _, f18, -1, f17, .inl ⟨rfl, fun f' h1 h2 => by omega⟩⟩
  clear g0 g1 f0 f2 f13 f15 f16 f17 f18
  rintro k ⟨⟨n', tr⟩, mks⟩ h' ⟨rfl, hmk, hn', t0, t2, t13, t15, t16, hkc, t18, L, t17, hL⟩
  simp only [Tm.get_mk] at hmk hn' t0 t2 t13 t15 t16 t17 t18
  subst hmk hn'
  cases k with
  | zero =>
    simp -implicitDefEqProofs (disch := (first | omega | fail)) only [go_sem, Nat.reduceAdd, Nat.reduceLT, ↓reduceIte, ir6_l2, t18]
    exact hk _ L hL (by simp -implicitDefEqProofs (disch := (first | omega | fail)) only [go_sem, Nat.reduceEqDiff, ↓reduceIte, t13]) (by simp -implicitDefEqProofs (disch := (first | omega | fail)) only [go_sem, Nat.reduceEqDiff, ↓reduceIte, t16]) (by simp -implicitDefEqProofs (disch := (first | omega | fail)) only [go_sem, Nat.reduceEqDiff, ↓reduceIte, t17])
  | succ i =>
    have e18 : ((i + 1 : Nat) : Int) - 1 = (i : Int) := by omega
    rw [e18] at t18
    have h0 : (0 : Int) ≤ (i : Int) := by omega
    by_cases hni : (cnt : Int) - i < n
    · simp -implicitDefEqProofs (disch := (first | omega | fail)) only [go_sem, Nat.reduceAdd, Nat.reduceLT, Nat.reduceEqDiff, ↓reduceIte, reduceCtorEq, ir6_l2, t0, t2, t13, t15, t16, t17, t18, h0, hni]
      refine ⟨i, by omega, by omega, rfl, L, rfl, ?_⟩
      rcases hL with ⟨h1, h2⟩ | ⟨f, h1, h2, h3, h4⟩
      · exact .inl ⟨h1, fun f' h5 h6 => h2 f' (by omega) h6⟩
      · exact .inr ⟨f, h1, by omega, h3, fun f' h5 h6 => by
          by_cases e : f' = i
          · have := h3.1; omega
          · exact h4 f' (by omega) h6⟩
    · simp -implicitDefEqProofs (disch := (first | omega | fail)) only [go_sem, Nat.reduceAdd, Nat.reduceLT, Nat.reduceEqDiff, ↓reduceIte, reduceCtorEq, ir6_l2, t0, t2, t18, h0, hni]
      refine GLoop.inv hm (fun k2 f h'' => h'' = h' ∧ f.mks = [] ∧ f.tm.n = 168 ∧ f.tm.get 0 = some (.int .i64 cnt) ∧ f.tm.get 2 = some (.int .i64 n) ∧ f.tm.get 13 = some v13 ∧ f.tm.get 15 = some (.slice (some (wb, 0)) cnt cnt ex) ∧ f.tm.get 16 = some v16 ∧ f.tm.get 17 = some (.int .i64 L) ∧ f.tm.get 18 = some (.int .i64 i) ∧ ∃ j : Nat, j + k2 = n ∧ f.tm.get 20 = some (.int .i64 ((i + j : Nat) : Int)) ∧ f.tm.get 19 = some (.bool (freeB hs i j))) n ?_ ?_
      · exact ⟨rfl, rfl, rfl, by simp -implicitDefEqProofs (disch := (first | omega | fail)) only [go_sem, ↓reduceIte, reduceCtorEq, t0], by simp -implicitDefEqProofs (disch := (first | omega | fail)) only [go_sem, Nat.reduceEqDiff, ↓reduceIte, t2], by simp -implicitDefEqProofs (disch := (first | omega | fail)) only [go_sem, Nat.reduceEqDiff, ↓reduceIte, t13], by simp -implicitDefEqProofs (disch := (first | omega | fail)) only [go_sem, Nat.reduceEqDiff, ↓reduceIte, t15], by simp -implicitDefEqProofs (disch := (first | omega | fail)) only [go_sem, Nat.reduceEqDiff, ↓reduceIte, t16], by simp -implicitDefEqProofs (disch := (first | omega | fail)) only [go_sem, Nat.reduceEqDiff, ↓reduceIte, t17], by simp -implicitDefEqProofs (disch := (first | omega | fail)) only [go_sem, Nat.reduceEqDiff, ↓reduceIte, t18], 0, by omega, by simp -implicitDefEqProofs (disch := (first | omega | fail)) only [go_sem, ↓reduceIte], by simp -implicitDefEqProofs (disch := (first | omega | fail)) only [go_sem, Nat.reduceEqDiff, ↓reduceIte]; rfl⟩
      clear t0 t2 t13 t15 t16 t17 t18
      clear tr
      rintro k2 ⟨⟨n', tr⟩, mks⟩ h'' ⟨rfl, hmk, hn', t0, t2, t13, t15, t16, t17, t18, j, hj, t20, t19⟩
      simp only [Tm.get_mk] at hmk hn' t0 t2 t13 t15 t16 t17 t18 t19 t20
      subst hmk hn'
      by_cases hjn : j < n
      · have hlt : i + j < cnt := by omega
        have hgs := hg _ hlt
        have hlt2 : ((i : Int) + (j : Int)) < (i : Int) + (n : Int) := by omega
        have hlt3 : ((i + j : Nat) : Int) < (i : Int) + (n : Int) := by omega
        cases hfb : freeB hs i j with
        | true =>
          rw [hfb] at t19
          simp -implicitDefEqProofs (disch := (first | omega | fail)) only [go_sem, Nat.reduceAdd, Nat.reduceLT, Nat.reduceEqDiff, ↓reduceIte, reduceCtorEq, ir6_l1, t0, t2, t13, t15, t16, t17, t18, t19, t20, hb, hsz, hgs, hRb, hlt3]
          exact ⟨k2 - 1, by omega, j + 1, by omega, congrArg _ (by omega), by simp [freeB, hfb]⟩
        | false =>
          rw [hfb] at t19
          simp -implicitDefEqProofs (disch := (first | omega | fail)) only [go_sem, Nat.reduceAdd, Nat.reduceLT, Nat.reduceEqDiff, ↓reduceIte, reduceCtorEq, ir6_l1, t0, t2, t13, t15, t16, t17, t18, t19, t20, hlt3, undefV]
          exact ⟨k2 - 1, by omega, j + 1, by omega, congrArg _ (by omega), by simp [freeB, hfb]⟩
      · obtain rfl : j = n := by omega
        cases hfb : freeB hs i j with
        | true =>
          rw [hfb] at t19
          simp -implicitDefEqProofs (disch := (first | omega | fail)) only [go_sem, Nat.reduceAdd, Nat.reduceLT, Nat.reduceEqDiff, ↓reduceIte, reduceCtorEq, ir6_l1, t0, t2, t13, t15, t16, t18, t19, t20]
          exact ⟨i, by omega, by omega, rfl, (i : Int), rfl, .inr ⟨i, rfl, Nat.le_refl _, ⟨by omega, freeB_t hfb⟩, fun f' h1 h2 => by omega⟩⟩
        | false =>
          rw [hfb] at t19
          simp -implicitDefEqProofs (disch := (first | omega | fail)) only [go_sem, Nat.reduceAdd, Nat.reduceLT, Nat.reduceEqDiff, ↓reduceIte, reduceCtorEq, ir6_l1, t0, t2, t13, t15, t16, t17, t18, t19, t20]
          refine ⟨i, by omega, by omega, rfl, L, rfl, ?_⟩
          have hno := freeB_f hfb
          rcases hL with ⟨h1, h2⟩ | ⟨f, h1, h2, h3, h4⟩
          · exact .inl ⟨h1, fun f' h5 h6 => by
              by_cases e : f' = i
              · rw [e]; exact hno
              · exact h2 f' (by omega) h6⟩
          · exact .inr ⟨f, h1, by omega, h3, fun f' h5 h6 => by
              by_cases e : f' = i
              · rw [e]; exact hno
              · exact h4 f' (by omega) h6⟩
theorem begin_one {h : Heap} {R W : Set'} {qn : Nat} {v : V} {q : Nat → Int} (hq : QI h v 1 q) (h1 : 1 ≤ qn) (h64 : qn ≤ 64) (e0 : q 0 = qn) (hR : ∀ b, R b) :
    SF Try.prog 10 [.int .i64 64, v] h R W fun r h' => h.n ≤ h'.n ∧ (∀ b, b < h.n → h'.get b = h.get b) ∧ ∃ x d r', r = .tuple [.agg [x, d, r'], .bool true] ∧ BothX h.n h' 64 1 q x d r' := by
  refine (begin_px hq (by omega) hR).mono ?_
  rintro r h' ⟨n1, k1, x, d, r', rfl, hh⟩
  refine ⟨n1, k1, x, d, r', rfl, ?_⟩
  rcases hh with ⟨_, _, _, h3⟩ | h3
  · exfalso
    rcases h3 with h3 | ⟨e, he, hoc⟩
    · omega
    · have hs : (stQ q 64 1).2 = false := by
        rw [stQ_succ]
        have : ¬ (q 0 > ((64 : Nat) : Int) - (stQ q 64 0).1) := by
          rw [e0]
          show ¬ ((qn : Int) > ((64 : Nat) : Int) - 0)
          omega
        rw [if_neg this]
        rfl
      rcases hoc with ⟨h4, _⟩ | ⟨_, _, ⟨⟨i, hi, h5⟩, _⟩ | ⟨_, h5, _⟩ | ⟨_, _, h5⟩⟩
      · omega
      · obtain rfl : i = 0 := by omega
        omega
      · have h5' : (stQ q 64 1).2 = true := h5
        rw [hs] at h5'; cases h5'
      · exact he h5
  · exact h3
def ir6_t : LC := LC.snd (LC.snd (LC.snd (LC.snd ir6)))
theorem ir6_split : ir6 = .seq (LC.fst ir6) (.seq (LC.fst (LC.snd ir6)) (.seq (LC.fst (LC.snd (LC.snd ir6))) (.seq (LC.fst (LC.snd (LC.snd (LC.snd ir6)))) ir6_t))) := rfl
set_option maxHeartbeats 4000000 in
theorem first_tail {H g : Heap} {x7 i qn : Nat} {n : Int} {X0 : XS} (hn : i64B n) (hq1 : 1 ≤ qn) (hq64 : qn ≤ 64) (z : LI H g x7 i X0) (hX : X0.n = 1) (hXc : X0.count 0 = qn) {tr : Tr V} (t0 : tr.get 0 = some (.int .i64 qn)) (t2 : tr.get 2 = some (.int .i64 n)) (t7 : tr.get 7 = some (.ptr (some (x7, 0)))) (t8 : tr.get 8 = some (.bool true)) :
    GO ⟨Try.prog, true⟩ (fun _ => True) (fun b => H.n ≤ b ∨ WN H b) none (Vm.Fin ⟨Try.prog, true⟩ (fun _ => True) (fun b => H.n ≤ b ∨ WN H b) [.tmp 6] fun r _ => r = .bool true) [It.code ir6_t] ⟨⟨168, tr⟩, []⟩ g := by
  obtain ⟨⟨u, SX, SD, rx, rd, qb, hb, fb, pb, hk, cc, p, c2, cs, cr, g0, g1, g2, few, e1, e2, e3⟩, hx7, hold⟩ := z
  have l7 := Heap.lt_of_get c2
  have hne : ∀ e : Int, (e != e) = false := fun e => by simp
  rw [hX] at e1
  have ec : u.X.count 0 = qn := by rw [e3]; exact hXc
  simp -implicitDefEqProofs (disch := (first | omega | fail)) only [go_sem, Nat.reduceAdd, Nat.reduceLT, Nat.reduceEqDiff, ↓reduceIte, ir6_t, ir6, LC.snd, t7, t8, c2, cs, g0, g1]
  refine GCallD.dem (R' := fun _ => True) (W' := fun _ => False) (copy_ok p.au.d (fun _ => trivial)) rfl ?_ ?_ ?_
  · refine ⟨⟨?_, ?_⟩, ⟨?_, ?_⟩, trivial⟩ <;> (intro b hb hc; first | (simp at hb; omega) | (simp at hb))
  · simp only [List.cons_append, List.nil_append, footP]
    and_intros
    all_goals (try trivial)
    all_goals (intros; first | trivial | exact (by assumption : False).elim | simp_all)
  rintro v g3 ⟨bd', L', rfl, hd1', hf1, n1, kk1⟩
  have p1 := p.old n1 kk1
  have c3 := (kk1 x7 l7).trans c2
  simp -implicitDefEqProofs (disch := (first | omega | fail)) only [go_sem, Nat.reduceAdd, Nat.reduceLT, Nat.reduceEqDiff, ↓reduceIte]
  refine GCallD.of (R' := fun _ => True) (W' := fun _ => False) (xover_ok (R := fun _ => True) (W := fun _ => False) p1.au.x p1.au.d hd1' rfl (fun _ => trivial)).kept ?_
  rintro v g4 ⟨⟨rfl, kk2, tb', hx4, htb⟩, vf4⟩
  have n2 := vf4.n
  have p2 := p1.old n2 kk2
  have hd4 := hd1'.old kk2
  have c4 := (kk2 x7 (by omega)).trans c3
  have hxl := hx4.lt
  simp -implicitDefEqProofs (disch := (first | omega | fail)) only [go_sem, Nat.reduceAdd, Nat.reduceLT, Nat.reduceEqDiff, ↓reduceIte]
  refine ⟨?_, ?_, ?_⟩
  · (try simp only [List.not_mem_nil, or_false, false_or, and_false, false_implies, implies_true, not_false_eq_true, List.mem_cons, and_true]; try and_intros; all_goals (try trivial); all_goals (intro b hb; first | omega | (intro hc; first | omega | (rcases hb with hb | hb <;> first | omega))))
  · and_intros
    all_goals (intros; exact (by assumption : False).elim)
  refine GCall.of (num_ok _).any ?_
  rintro v g4 ⟨rfl, rfl⟩
  simp -implicitDefEqProofs (disch := (first | omega | fail)) only [go_sem, Nat.reduceAdd, Nat.reduceLT, Nat.reduceEqDiff, ↓reduceIte, hne]
  have hu4 : AtU g4 ⟨g3.n, bd', tb', L', u.X, u.D⟩ := ⟨hx4, hd4, p.au.fit⟩
  have hfu : ∀ b, (UU.mk g3.n bd' tb' L' u.X u.D).foot b → g.n ≤ b ∧ b < g4.n := by
    rintro b (hb | hb)
    · have := hf1 b hb
      omega
    · have h1 := hxl b hb
      rcases hb with rfl | ⟨a, ha, rfl⟩
      · exact ⟨n1, h1⟩
      · have h3 : g3.n ≤ tb' a := htb a ha
        exact ⟨Nat.le_trans n1 h3, h1⟩
  have hgn : H.n ≤ g.n := by omega
  refine GCall.of (((utake_any hu4 0 (n := 1) (by omega)).any.kept).foot (fun _ _ => trivial) (fun b hb => .inl (by have := hfu b hb; omega))) ?_
  rintro v g5 ⟨⟨X1, q1, hu5⟩, vf5⟩
  have n5 := vf5.n
  have p5 := p2.keep (h2 := g5) n5 fun b hb hl => vf5.get b hl fun hf => by
    have h1 := hfu b hf
    rcases hb with hb | hb | hb
    · have := (p.sx b hb).2.1; omega
    · have := (p.sd b hb).2.1; omega
    · have := p.au.lt b hb; omega
  have c5 := (vf5.get x7 (by omega) (fun hf => by have := hfu x7 hf; omega)).trans c4
  obtain ⟨a1, ee, bb, rfl, hE, hC⟩ : ∃ (a1 ee : Int) (bb : Bool), v = .tuple [.int .i64 a1, .int .i64 ee] ∧ (ee == 5) = bb ∧ (((cntB (u.X.has 0) (u.X.count 0) : Nat) : Int) == (qn : Int)) = bb := by
    rcases take_one e1 q1 with ⟨rfl, hcnt⟩ | ⟨f1, rfl, hcnt⟩
    · exact ⟨0, 5, true, rfl, rfl, by rw [hcnt, ec]; simp⟩
    · exact ⟨f1, 0, false, rfl, rfl, by rw [← ec]; simp; omega⟩
  have hbb : (bb == bb) = true := by simp
  have tk : SF Try.prog 24 [.ptr (some (u.bx, 0)), .int .i64 0] g5 (FootX u.bx u.tb u.X) (fun _ => False) fun v h' => v = .int .i64 ((cntB (u.X.has 0) (u.X.count 0) : Nat) : Int) ∧ h' = g5 := by
    have := taken_uni p5.au.x 0
    rw [if_pos (by omega)] at this
    exact this
  simp -implicitDefEqProofs (disch := (first | omega | fail)) only [go_sem, Nat.reduceAdd, Nat.reduceLT, Nat.reduceEqDiff, ↓reduceIte]
  refine GCallD.of (R' := fun _ => True) (W' := fun _ => False) (num_ok _) ?_
  rintro v g5 ⟨rfl, rfl⟩
  simp -implicitDefEqProofs (disch := (first | omega | fail)) only [go_sem, Nat.reduceAdd, Nat.reduceLT, Nat.reduceEqDiff, ↓reduceIte, t7, c5, cs, g0, hE]
  refine GCallD.of (R' := fun _ => True) (W' := fun _ => False) (tk.foot (fun _ _ => trivial) (fun _ h => h)) ?_
  rintro v g5 ⟨rfl, rfl⟩
  obtain ⟨cx, xq, xh, r1, r2, r3, r4, r5, r6⟩ := p5.rx.x
  obtain ⟨cv, v1, v2, v3, v4⟩ := p5.rx.v
  rw [e1] at r6 v2
  obtain ⟨w1, w2, w3⟩ := v4 0 (by omega)
  obtain ⟨xk, w4⟩ := w3 (by omega)
  obtain ⟨cb, b1, b2, b3, b4⟩ := p5.rx.b 0 (by omega) (by omega)
  rw [ec] at w4 b2 b4
  have hap := append_nilS (e := 4) (sz := 1) (bytes := 1) (cap := qn) (ex := xk) (h := g5) (b := hk 0) (o := 0) (m := qn) (ce := 4) (c := cb) b1 (by omega) (by omega) (by omega) (by omega)
  obtain ⟨g6, e6⟩ : ∃ g6, g5.push (.cells (Blk.of (cb.gets 0 (qn * 1))) 4) = g6 := ⟨_, rfl⟩
  have n6 : g6.n = g5.n + 1 := by rw [← e6]; simp
  have k6 : ∀ b, b < g5.n → g6.get b = g5.get b := fun b hb => by rw [← e6, w_push_ne (by omega)]
  have c6 := (k6 x7 (by omega)).trans c5
  have b6 : g6.get g5.n = some (.cells (Blk.of (cb.gets 0 (qn * 1))) 4) := by rw [← e6, w_push_eq rfl]
  rw [e6] at hap
  have h01 : (0 : Int) < ((1 : Nat) : Int) := by omega
  simp -implicitDefEqProofs (disch := (first | omega | fail)) only [go_sem, Nat.reduceAdd, Nat.reduceLT, Nat.reduceEqDiff, ↓reduceIte, reduceCtorEq, Int.reduceLE, Int.reduceToNat, h01, t0, t2, t7, c5, cs, g0, g2, hC, hbb, r1, r2, r6, v1, v2, w4, appendV_of ap_64, ↓hap, c6]
  refine ⟨?_, ?_, ?_⟩
  · (try simp only [List.not_mem_nil, or_false, false_or, and_false, false_implies, implies_true, not_false_eq_true, List.mem_cons, and_true, true_and]; try and_intros; all_goals (try trivial); all_goals (intro b hb; first | omega | (intro hc; first | omega | (rcases hb with hb | hb <;> first | omega))))
  · and_intros
    all_goals (intros; exact (by assumption : False).elim)
  have p6 := p5.old (h2 := g6) (by omega) k6
  refine GCall.of (((utake_any p6.au 0 (n := n) hn.2).any.kept).foot (fun _ _ => trivial) (fun b hb => .inl (p6.fu b hb).1)) ?_
  rintro v g7 ⟨⟨X2, q2, hu7⟩, vf7⟩
  have n7 := vf7.n
  have b7 := (vf7.get g5.n (by omega) (fun hf => by have := p5.au.lt _ hf; omega)).trans b6
  obtain ⟨a2, e2', rfl⟩ := q2.shape
  by_cases hn1 : n < 1
  · rcases q2 with ⟨_, hv2, _⟩ | ⟨i', N', r', _, rfl, _, hN, _⟩
    · cases hv2
      simp -implicitDefEqProofs (disch := (first | omega | fail)) only [go_sem, Nat.reduceAdd, Nat.reduceLT, Nat.reduceEqDiff, ↓reduceIte, t2]
      refine GCall.of (num_ok _).any ?_
      rintro v g8 ⟨rfl, rfl⟩
      simp -implicitDefEqProofs (disch := (first | omega | fail)) only [go_sem, Nat.reduceAdd, Nat.reduceLT, ↓reduceIte]
      refine GCall.of (known_ok _ _ _).any ?_
      rintro r g9 ⟨rfl, rfl⟩
      simp -implicitDefEqProofs (disch := (first | omega | fail)) only [go_sem, Nat.reduceAdd, Nat.reduceLT, Nat.reduceEqDiff, ↓reduceIte]
    · omega
  rcases q2 with ⟨h9, _⟩ | ⟨i', N', r', e9, rfl, hi9, hN, htq, hv2, _⟩
  · omega
  obtain rfl : i' = 0 := by omega
  rw [ec] at htq
  simp -implicitDefEqProofs (disch := (first | omega | fail)) only [go_sem, Nat.reduceAdd, Nat.reduceLT, Nat.reduceEqDiff, ↓reduceIte, reduceCtorEq, t0, t2]
  refine low_loop (g := g7) (cnt := qn) (n := N') (wb := g5.n) (hs := u.X.has 0) (v13 := .int .i64 e2') (v16 := .int .i64 a2) (ex := false) b7 (by rw [w_of_size, Blk.length_gets]; omega) (fun s hs => ?_) (fun _ => trivial) hq64 (by omega) (by have := hn.2; omega) ?_ rfl rfl (by simp -implicitDefEqProofs (disch := (first | omega | fail)) only [go_sem, ↓reduceIte, reduceCtorEq, t0]) (by simp -implicitDefEqProofs (disch := (first | omega | fail)) only [go_sem, Nat.reduceEqDiff, ↓reduceIte, t2]) (by simp -implicitDefEqProofs (disch := (first | omega | fail)) only [go_sem, Nat.reduceEqDiff, ↓reduceIte]) (by simp -implicitDefEqProofs (disch := (first | omega | fail)) only [go_sem, Nat.reduceEqDiff, ↓reduceIte]) (by simp -implicitDefEqProofs (disch := (first | omega | fail)) only [go_sem, Nat.reduceEqDiff, ↓reduceIte]) (by simp -implicitDefEqProofs (disch := (first | omega | fail)) only [go_sem, Nat.reduceEqDiff, ↓reduceIte]) (by simp -implicitDefEqProofs (disch := (first | omega | fail)) only [go_sem, ↓reduceIte])
  · rw [Blk.get_of _ _ (by rw [Blk.length_gets]; omega), List.getD_eq_getElem?_getD, Blk.gets_get _ _ _ _ (by omega), Option.getD_some, Nat.zero_add]; exact b4 s hs
  intro tr L hL s13 s16 s17
  rcases hL.take htq with ⟨rfl, rfl⟩ | ⟨f, rfl, rfl⟩
  · cases hv2
    simp -implicitDefEqProofs (disch := (first | omega | fail)) only [go_sem, Nat.reduceAdd, Nat.reduceLT, Nat.reduceEqDiff, ↓reduceIte, Int.reduceLT, s13, s17]
    refine GCall.of (num_ok _).any ?_
    rintro v g8 ⟨rfl, rfl⟩
    simp -implicitDefEqProofs (disch := (first | omega | fail)) only [go_sem, Nat.reduceAdd, Nat.reduceLT, Nat.reduceEqDiff, ↓reduceIte, s16]
    refine GCall.of (known_ok _ _ _).any ?_
    rintro r g9 ⟨rfl, rfl⟩
    simp -implicitDefEqProofs (disch := (first | omega | fail)) only [go_sem, Nat.reduceAdd, Nat.reduceLT, Nat.reduceEqDiff, ↓reduceIte]
  · cases hv2
    simp -implicitDefEqProofs (disch := (first | omega | fail)) only [go_sem, Nat.reduceAdd, Nat.reduceLT, Nat.reduceEqDiff, ↓reduceIte, s13, s17]
    refine GCall.of (num_ok _).any ?_
    rintro v g8 ⟨rfl, rfl⟩
    simp -implicitDefEqProofs (disch := (first | omega | fail)) only [go_sem, Nat.reduceAdd, Nat.reduceLT, Nat.reduceEqDiff, ↓reduceIte, s16, s17]
    refine GCall.of (known_ok _ _ _).any ?_
    rintro r g9 ⟨rfl, rfl⟩
    simp -implicitDefEqProofs (disch := (first | omega | fail)) only [go_sem, Nat.reduceAdd, Nat.reduceLT, Nat.reduceEqDiff, ↓reduceIte]
set_option maxHeartbeats 4000000 in
theorem first_law {H : Heap} {qn n : Int} {w : V} {ms : Nat} (hn : i64B n) (hv : StepsU H w ms) :
    SF ⟨Try.prog, true⟩ 6 [.int .i64 qn, w, .int .i64 n] H (fun _ => True) (WN H) fun r _ => r = .bool true := by
  have hlen := hv.v.lenV
  refine SF.go hm Try.func6 ir6_eq ?_
  rw [ir6_split]
  by_cases hq : ¬ (1 ≤ qn ∧ qn ≤ 64)
  · by_cases hq1 : qn < 1
    · simp -implicitDefEqProofs (disch := (first | omega | (simp -implicitDefEqProofs only [szs, ne_eq] <;> omega) | fail)) only [go_sem, Nat.reduceAdd, Nat.reduceSub, Nat.reduceLT, Nat.reduceMod, Nat.reduceDiv, ↓reduceIte, reduceCtorEq, ir6, LC.fst, LC.snd, undefV]
      refine GCall.of (known_ok _ _ _).any ?_
      rintro r h' ⟨rfl, rfl⟩
      simp -implicitDefEqProofs (disch := (first | omega | (simp -implicitDefEqProofs only [szs, ne_eq] <;> omega) | fail)) only [go_sem, Nat.reduceAdd, Nat.reduceSub, Nat.reduceLT, Nat.reduceMod, Nat.reduceDiv, ↓reduceIte, reduceCtorEq]
    · have hq2 : (64 : Int) < qn := by omega
      simp -implicitDefEqProofs (disch := (first | omega | (simp -implicitDefEqProofs only [szs, ne_eq] <;> omega) | fail)) only [go_sem, Nat.reduceAdd, Nat.reduceSub, Nat.reduceLT, Nat.reduceMod, Nat.reduceDiv, ↓reduceIte, reduceCtorEq, ir6, LC.fst, LC.snd, undefV]
      refine GCall.of (known_ok _ _ _).any ?_
      rintro r h' ⟨rfl, rfl⟩
      simp -implicitDefEqProofs (disch := (first | omega | (simp -implicitDefEqProofs only [szs, ne_eq] <;> omega) | fail)) only [go_sem, Nat.reduceAdd, Nat.reduceSub, Nat.reduceLT, Nat.reduceMod, Nat.reduceDiv, ↓reduceIte, reduceCtorEq]
  obtain ⟨qn, rfl⟩ := Int.eq_ofNat_of_zero_le (show 0 ≤ qn by omega)
  have hq1 : 1 ≤ qn := by omega
  have hq64 : qn ≤ 64 := by omega
  simp -implicitDefEqProofs (disch := (first | omega | (simp -implicitDefEqProofs only [szs, ne_eq] <;> omega) | fail)) only [go_sem, Nat.reduceAdd, Nat.reduceSub, Nat.reduceLT, Nat.reduceMod, Nat.reduceDiv, ↓reduceIte, reduceCtorEq, ir6, LC.fst, LC.snd]
  refine GCall.of (much_ok (mq := 0) (m := ms) (fun g => by simp [Vm.lenV, Try.underlying22]) (by omega) hv.v fun b => trivial).any ?_
  rintro r h' ⟨⟨b1, rfl, hb1⟩, rfl⟩
  cases b1 with
  | true =>
    simp -implicitDefEqProofs (disch := (first | omega | (simp -implicitDefEqProofs only [szs, ne_eq] <;> omega) | fail)) only [go_sem, Nat.reduceAdd, Nat.reduceSub, Nat.reduceLT, Nat.reduceMod, Nat.reduceDiv, ↓reduceIte, reduceCtorEq]
    refine GCall.of (known_ok _ _ _).any ?_
    rintro r h' ⟨rfl, rfl⟩
    simp -implicitDefEqProofs (disch := (first | omega | (simp -implicitDefEqProofs only [szs, ne_eq] <;> omega) | fail)) only [go_sem, Nat.reduceAdd, Nat.reduceSub, Nat.reduceLT, Nat.reduceMod, Nat.reduceDiv, ↓reduceIte, reduceCtorEq]
  | false =>
  obtain ⟨ga, ea⟩ : ∃ ga, h'.push (.cells (Blk.of [.int .i64 qn]) 3) = ga := ⟨_, rfl⟩
  have na : ga.n = h'.n + 1 := by rw [← ea]; simp
  have ka : ∀ b, b < h'.n → ga.get b = h'.get b := fun b hb => by rw [← ea, w_push_ne (by omega)]
  have hqi : QI ga (.slice (some (h'.n, 0)) 1 1 true) 1 (fun _ => (qn : Int)) := ⟨fun i hi => ⟨by show -9223372036854775808 ≤ (qn : Int); omega, by show (qn : Int) ≤ 9223372036854775807; omega⟩, by omega, .inr ⟨h'.n, 0, 1, true, _, 3, rfl, by rw [← ea, w_push_eq rfl], Nat.le_refl 1, Nat.le_refl 1, fun i hi => by have h0 : i = 0 := Nat.lt_one_iff.1 hi; subst h0; rfl⟩⟩
  simp -implicitDefEqProofs (disch := (first | omega | (simp -implicitDefEqProofs only [szs, ne_eq] <;> omega) | fail)) only [go_sem, Nat.reduceAdd, Nat.reduceSub, Nat.reduceLT, Nat.reduceMod, Nat.reduceDiv, ↓reduceIte, reduceCtorEq, ea]
  refine GCall.of (begin_one hqi hq1 hq64 rfl fun b => trivial).any ?_
  rintro r g ⟨ng, kg, x, d, rr, rfl, hB⟩
  have hW : h'.n ≤ g.n ∨ WN h' g.n := .inl (by omega)
  obtain ⟨u, SX, SD, rx, rd, qb, hb, fb, pb, hk, rfl, rfl, rfl, p0, hm', hn', hcq, hpe⟩ := hB
  have p : PX (fun b => h'.n ≤ b) g u u.X u.D SX SD rx rd qb hb fb pb hk := ⟨p0.au, p0.rx, p0.rd, fun b hb => by have := p0.sx b hb; exact ⟨by have := this.1; omega, this.2⟩, fun b hb => by have := p0.sd b hb; exact ⟨by have := this.1; omega, this.2⟩, fun b hb => by have := p0.fu b hb; omega, p0.fit, fun b hb => by show h'.n ≤ b; omega⟩
  obtain ⟨g1, eg1⟩ : ∃ g1, (g.push (.cells (Blk.of [.ptr none, .ptr none, .ptr none]) 29)).set g.n (.cells ((((Blk.of [.ptr none, .ptr none, .ptr none]).set 0 (.ptr (some (u.bx, 0)))).set 1 (.ptr (some (u.bd, 0)))).set 2 (.ptr (some (rx, 0)))) 29) = g1 := ⟨_, rfl⟩
  have n1 : g1.n = g.n + 1 := by rw [← eg1]; simp
  have k1 : ∀ b, b < g.n → g1.get b = g.get b := fun b hb => by rw [← eg1, w_set_ne (by simp) (by omega), w_push_ne (by omega)]
  have c1 : g1.get g.n = some (.cells ((((Blk.of [.ptr none, .ptr none, .ptr none]).set 0 (.ptr (some (u.bx, 0)))).set 1 (.ptr (some (u.bd, 0)))).set 2 (.ptr (some (rx, 0)))) 29) := by rw [← eg1, w_set_eq (by simp) rfl]
  simp -implicitDefEqProofs (disch := (first | omega | (simp -implicitDefEqProofs only [szs, ne_eq] <;> omega) | fail)) only [go_sem, Nat.reduceAdd, Nat.reduceSub, Nat.reduceLT, Nat.reduceMod, Nat.reduceDiv, ↓reduceIte, reduceCtorEq, undefV, hW, eg1]
  have z0 : LI h' g1 g.n 0 u.X := ⟨⟨u, SX, SD, rx, rd, qb, hb, fb, pb, hk, _, p.box n1 k1, c1, rfl, rfl, rfl, rfl, rfl, (fun s => by rw [hpe s]; simp), rfl, rfl, rfl⟩, by omega, fun b hb => by rw [k1 b (by omega), kg b (by omega)]; exact ka b hb⟩
  refine GLoop.inv hm (fun k f g2 => f.mks = [] ∧ f.tm.n = 168 ∧ f.tm.get 0 = some (.int .i64 qn) ∧ f.tm.get 1 = some w ∧ f.tm.get 2 = some (.int .i64 n) ∧ f.tm.get 7 = some (.ptr (some (g.n, 0))) ∧ f.tm.get 8 = some (.bool true) ∧ ∃ i : Nat, i + k = 60 ∧ f.tm.get 9 = some (.int .i64 i) ∧ LI h' g2 g.n i u.X) 60 ?_ ?_
  · exact ⟨rfl, rfl, by simp -implicitDefEqProofs (disch := (first | omega | (simp -implicitDefEqProofs only [szs, ne_eq] <;> omega) | fail)) only [go_sem, ↓reduceIte], by simp -implicitDefEqProofs (disch := (first | omega | (simp -implicitDefEqProofs only [szs, ne_eq] <;> omega) | fail)) only [go_sem, Nat.reduceDiv, ↓reduceIte, reduceCtorEq], by simp -implicitDefEqProofs (disch := (first | omega | (simp -implicitDefEqProofs only [szs, ne_eq] <;> omega) | fail)) only [go_sem, Nat.reduceSub, Nat.reduceMod, Nat.reduceDiv, ↓reduceIte, reduceCtorEq], by simp -implicitDefEqProofs (disch := (first | omega | (simp -implicitDefEqProofs only [szs, ne_eq] <;> omega) | fail)) only [go_sem, Nat.reduceMod, Nat.reduceDiv, ↓reduceIte, reduceCtorEq], by simp -implicitDefEqProofs (disch := (first | omega | (simp -implicitDefEqProofs only [szs, ne_eq] <;> omega) | fail)) only [go_sem, Nat.reduceSub, Nat.reduceMod, Nat.reduceDiv, ↓reduceIte, reduceCtorEq], 0, by omega, by simp -implicitDefEqProofs (disch := (first | omega | (simp -implicitDefEqProofs only [szs, ne_eq] <;> omega) | fail)) only [go_sem, Nat.reduceSub, Nat.reduceMod, Nat.reduceDiv, ↓reduceIte, reduceCtorEq]; rfl, z0⟩
  clear z0
  rintro k ⟨⟨n', tr⟩, mks⟩ g2 ⟨hmk, hn', t0, t1, t2, t7, t8, i, hi, t9, z⟩
  simp only [Tm.get_mk] at hmk hn' t0 t1 t2 t7 t8 t9
  subst hmk hn'
  obtain ⟨⟨u2, SX2, SD2, rx2, rd2, qb2, hb2, fb2, pb2, hk2, cc, p2, c2, cs, cr, g0, g1', g2', few2, e1, e2, e3⟩, hx7, hold⟩ := z
  have l7 := Heap.lt_of_get c2
  by_cases hin : i < ms ∧ i < 60
  · obtain ⟨him, hi60⟩ := hin
    rcases hv.at' with ⟨h0, _⟩ | ⟨b, o, cap, c, ce, rfl, hb', hsz, hc⟩
    · omega
    obtain ⟨kd, a1, a2, a3, d, l, kv, mk, ks, kw, y0, y1, y2, y3, y4, y5, ⟨hdl, hll⟩, ⟨hkv, hmk⟩, hi3⟩ := hc i him
    have hb2' := (hold b (Heap.lt_of_get hb')).trans hb'
    have hdg : BytesV g2 (fun b => ¬ (h'.n ≤ b ∧ b ≠ g.n) ∧ b < g2.n) d l := (BytesV.old hdl hold).mono fun b hb => ⟨by omega, by omega⟩
    have hkg : KeepV g2 (fun _ => True) kv mk ks kw := (KeepV.old hkv hold).mono fun _ _ => trivial
    simp -implicitDefEqProofs (disch := (first | omega | (simp -implicitDefEqProofs only [szs, ne_eq] <;> omega) | fail)) only [go_sem, Nat.reduceAdd, Nat.reduceLT, Nat.reduceEqDiff, ↓reduceIte, ir6_l0, t1, t7, t8, t9, ↓hlen, hb2', y0, y1, y2, y3, y4, y5, c2, cs, g0, g1', g2']
    refine GCallD.dem (R' := fun _ => True) (W' := fun b => h'.n ≤ b ∧ b ≠ g.n) ((do_any (W := fun b => h'.n ≤ b ∧ b ≠ g.n) p2 few2 (by omega) (fun _ h => h) hi3 d kv hdg hll hkg hmk).kept) rfl trivial ?_ ?_
    · simp only [List.cons_append, List.nil_append, footP]
      and_intros
      all_goals (try trivial)
      all_goals (intros; first | trivial | exact .inl (by assumption : _ ∧ _).1 | simp_all)
    rintro r g3 ⟨⟨u3, SX3, SD3, rx3, rd3, qb3, hb3, fb3, pb3, hk3, rfl, p3, few3, d1, d2, d3⟩, vf3⟩
    have n3 := vf3.n
    have c3 := (vf3.get g.n l7 (fun hf => hf.2 rfl)).trans c2
    have hold3 : ∀ b, b < h'.n → g3.get b = h'.get b := fun b hb => by rw [vf3.get b (by omega) (fun hf => by have := hf.1; omega)]; exact hold b hb
    obtain ⟨g4, e4⟩ : ∃ g4, g3.set g.n (O.cells (((cc.set 0 (V.ptr (some (u3.bx, 0)))).set 1 (V.ptr (some (u3.bd, 0)))).set 2 (V.ptr (some (rx3, 0)))) 29) = g4 := ⟨_, rfl⟩
    have n4 : g4.n = g3.n := by rw [← e4]; simp
    have c4 : g4.get g.n = some (.cells (((cc.set 0 (V.ptr (some (u3.bx, 0)))).set 1 (V.ptr (some (u3.bd, 0)))).set 2 (V.ptr (some (rx3, 0)))) 29) := by rw [← e4, w_set_eq (by omega) rfl]
    have k4 : ∀ b, b ≠ g.n → g4.get b = g3.get b := fun b hb => by rw [← e4, w_set_ne (by omega) hb]
    have p4 := p3.keep (h2 := g4) (by omega) fun b hb hl => k4 b (by
      rcases hb with hb | hb | hb
      · exact (p3.sx b hb).1.2
      · exact (p3.sd b hb).1.2
      · exact (p3.fu b hb).2)
    simp -implicitDefEqProofs (disch := (first | omega | (simp -implicitDefEqProofs only [szs, ne_eq] <;> omega) | fail)) only [go_sem, Nat.reduceAdd, Nat.reduceLT, Nat.reduceEqDiff, ↓reduceIte, reduceCtorEq, t0, t1, t2, t7, t9, c3, cs, cr, e4, undefV]
    refine ⟨?_, ⟨fun b _ hb => .inl hb.1, fun _ => .inl hx7⟩, ?_⟩
    · (try simp only [List.not_mem_nil, or_false, false_or, and_false, implies_true, not_false_eq_true, List.mem_cons, and_true]; try and_intros; all_goals (try trivial); all_goals (intro b hb; first | omega | (intro hc; first | omega | (rcases hb with hb | hb <;> first | omega))))
    exact ⟨k - 1, by omega, i + 1, by omega, congrArg _ (by omega), ⟨⟨u3, SX3, SD3, rx3, rd3, qb3, hb3, fb3, pb3, hk3, _, p4, c4, by rw [Blk.size_set, Blk.size_set, Blk.size_set]; exact cs, by rw [Blk.ro_set, Blk.ro_set, Blk.ro_set]; exact cr, by simp -implicitDefEqProofs (disch := (first | omega | (simp -implicitDefEqProofs only [szs, ne_eq] <;> omega) | fail)) only [go_sem], by simp -implicitDefEqProofs (disch := (first | omega | (simp -implicitDefEqProofs only [szs, ne_eq] <;> omega) | fail)) only [go_sem], by simp -implicitDefEqProofs (disch := (first | omega | (simp -implicitDefEqProofs only [szs, ne_eq] <;> omega) | fail)) only [go_sem], few3, d1.trans e1, d2.trans e2, d3.trans e3⟩, hx7, fun b hb => by rw [k4 b (by omega)]; exact hold3 b hb⟩⟩
  · by_cases him : i < ms
    · simp -implicitDefEqProofs (disch := (first | omega | (simp -implicitDefEqProofs only [szs, ne_eq] <;> omega) | fail)) only [go_sem, Nat.reduceAdd, Nat.reduceLT, Nat.reduceEqDiff, ↓reduceIte, ir6_l0, t1, t9, ↓hlen, undefV]
      exact first_tail hn hq1 hq64 ⟨⟨u2, SX2, SD2, rx2, rd2, qb2, hb2, fb2, pb2, hk2, cc, p2, c2, cs, cr, g0, g1', g2', few2, e1, e2, e3⟩, hx7, hold⟩ hm' (by have h : (u.X.count 0 : Int) = (qn : Int) := hcq 0 (by omega); omega) (by simp -implicitDefEqProofs (disch := (first | omega | (simp -implicitDefEqProofs only [szs, ne_eq] <;> omega) | fail)) only [go_sem, ↓reduceIte, reduceCtorEq, t0]) (by simp -implicitDefEqProofs (disch := (first | omega | (simp -implicitDefEqProofs only [szs, ne_eq] <;> omega) | fail)) only [go_sem, Nat.reduceEqDiff, ↓reduceIte, t2]) (by simp -implicitDefEqProofs (disch := (first | omega | (simp -implicitDefEqProofs only [szs, ne_eq] <;> omega) | fail)) only [go_sem, Nat.reduceEqDiff, ↓reduceIte, t7]) (by simp -implicitDefEqProofs (disch := (first | omega | (simp -implicitDefEqProofs only [szs, ne_eq] <;> omega) | fail)) only [go_sem, Nat.reduceEqDiff, ↓reduceIte, t8])
    · simp -implicitDefEqProofs (disch := (first | omega | (simp -implicitDefEqProofs only [szs, ne_eq] <;> omega) | fail)) only [go_sem, Nat.reduceAdd, Nat.reduceLT, Nat.reduceEqDiff, ↓reduceIte, ir6_l0, t1, t9, ↓hlen, undefV]
      exact first_tail hn hq1 hq64 ⟨⟨u2, SX2, SD2, rx2, rd2, qb2, hb2, fb2, pb2, hk2, cc, p2, c2, cs, cr, g0, g1', g2', few2, e1, e2, e3⟩, hx7, hold⟩ hm' (by have h : (u.X.count 0 : Int) = (qn : Int) := hcq 0 (by omega); omega) (by simp -implicitDefEqProofs (disch := (first | omega | (simp -implicitDefEqProofs only [szs, ne_eq] <;> omega) | fail)) only [go_sem, ↓reduceIte, reduceCtorEq, t0]) (by simp -implicitDefEqProofs (disch := (first | omega | (simp -implicitDefEqProofs only [szs, ne_eq] <;> omega) | fail)) only [go_sem, Nat.reduceEqDiff, ↓reduceIte, t2]) (by simp -implicitDefEqProofs (disch := (first | omega | (simp -implicitDefEqProofs only [szs, ne_eq] <;> omega) | fail)) only [go_sem, Nat.reduceEqDiff, ↓reduceIte, t7]) (by simp -implicitDefEqProofs (disch := (first | omega | (simp -implicitDefEqProofs only [szs, ne_eq] <;> omega) | fail)) only [go_sem, Nat.reduceEqDiff, ↓reduceIte, t8])
end Go.Proofs.Ythdkhbhicimpdaa
