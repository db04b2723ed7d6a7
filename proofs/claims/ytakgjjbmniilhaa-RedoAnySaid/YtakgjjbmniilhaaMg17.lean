/- same: do two disks show the same? -/
import Derived.Test.YtakgjjbmniilhaaMg16
import Derived.Test.YtakgjjbmniilhaaMg13
set_option linter.unusedVariables false
set_option maxRecDepth 100000
set_option linter.unusedVariables false
namespace Go.Proofs.Ytakgjjbmniilhaa
open Go Go.Vm
attribute [-go_sem] qQ
set_option maxHeartbeats 8000000 in
theorem bytes_ok {h : Heap} {R W : Set'} {bd : Nat} {L : DL} {D : DS} (hd : DiskAt h bd L D) (hR : ∀ b, zZ bd L D b → R b) : SF Try.prog 56 [.ptr (some (bd, 0))] h R W fun v h' => v = .slice (some (h.n, 0)) (D.n * 128) (D.n * 128) true ∧ h'.n = h.n + 1 ∧ (∃ cc, h'.get h.n = some (.cells cc 5) ∧ cc.size = D.n * 128 ∧ cc.ro = false ∧ cc.gets 0 (D.n * 128) = flatF D.fl D.n) ∧ ∀ b, b < h.n → h'.get b = h.get b := by
 obtain ⟨c, h1, sz, ro, c0, c1, c2⟩ := hd.d
 obtain ⟨f, f1, fs, fro, fg⟩ := hd.f
 have hfl := hd.fl
 have hp := hd.pos
 have hR1 := hR bd (.inl rfl)
 have hR2 := hR L.fb (.inr (.inl rfl))
 have hlt1 := Heap.lt_of_get h1
 have hlt2 := Heap.lt_of_get f1
 have hN := zA
 refine SF.go hm Try.func56 ir56_eq ?_
 simp -implicitDefEqProofs (disch := omega) only [go_sem, seval, ↓reduceIte, reduceCtorEq, ir56]
 refine qK.of (there_ok hd (.inr hR1)) ?_
 rintro w h' ⟨rfl, rfl⟩
 have hmk : 0 ≤ (D.n : Int) * 128 ∧ D.n * 128 ≤ 281474976710656 ∧ (D.n : Int) * 128 ≤ 9223372036854775807 := by omega
 have htn : ((D.n : Int) * 128).toNat = D.n * 128 := by omega
 simp -implicitDefEqProofs (disch := omega) only [go_sem, seval, ↓reduceIte, reduceCtorEq, h1, c0, hR1, hmk, htn]
 refine kE.inv hm (fun k f g => f.mks = [] ∧ f.tm.n = 34 ∧ f.tm.get 0 = some (.ptr (some (bd, 0))) ∧ f.tm.get 19 = some (.int .i64 D.n) ∧ ∃ j : Nat, j + k = D.n ∧ f.tm.get 20 = some (.int .i64 j) ∧ f.tm.get 3 = some (.slice (some (h'.n, 0)) (j * 128) (D.n * 128) true) ∧ g.n = h'.n + 1 ∧ (∃ cc, g.get h'.n = some (.cells cc 5) ∧ cc.size = D.n * 128 ∧ cc.ro = false ∧ cc.gets 0 (j * 128) = flatF D.fl j) ∧ ∀ b, b < h'.n → g.get b = h'.get b) D.n ?_ ?_
 ·refine ⟨rfl, rfl, by simp -implicitDefEqProofs (disch := omega) only [go_sem, seval, ↓reduceIte], by simp -implicitDefEqProofs (disch := omega) only [go_sem, seval, ↓reduceIte, reduceCtorEq], 0, by omega, by simp -implicitDefEqProofs (disch := omega) only [go_sem, seval, ↓reduceIte, reduceCtorEq], by simp -implicitDefEqProofs (disch := omega) only [go_sem, seval, ↓reduceIte, reduceCtorEq], by simp, ⟨_, qH rfl _, rfl, rfl, rfl⟩, fun b hb => by simp -implicitDefEqProofs (disch := omega) only [go_sem, seval]⟩
 ·rintro k ⟨⟨n', tr⟩, mks⟩ g ⟨hmk, hn', t0, t19, j, hj, t20, t3, gn, ⟨cc, c1, c2, c3, c4⟩, hold⟩
  simp only [Tm.kL] at hmk hn' t0 t19 t20 t3
  subst hmk hn'
  by_cases hjm : j < D.n
  ·have hg1 : g.get bd = some (.cells c 80) := by rw [hold _ hlt1]; exact h1
   have hg2 : g.get L.fb = some (.cells f 101) := by rw [hold _ hlt2]; exact f1
   have hs := (hfl j hjm)
   have hone := hs.one
   have hsl := hs.1
   simp -implicitDefEqProofs (disch := omega) only [go_sem, seval, ↓reduceIte, reduceCtorEq, ir56_l0, t0, t19, t20, t3, hg1, c0, hR1, sl_101, qU jO]
   rw [append_in (vs := D.fl j) hg2 (by omega) (by rw [Nat.mul_one]; exact fg j hjm) hone c1 (by omega) (by omega) c3]
   have hcs : ((cc.jL (0 + j * 128 * 1) (D.fl j)).size = D.n * 128) := by rw [Blk.jR]; exact c2
   simp -implicitDefEqProofs (disch := omega) only [go_sem, seval, hR2]
   refine ⟨k - 1, by omega, j + 1, by omega, by simp, by rw [show (j + 1) * 128 = j * 128 + 128 by omega], gn, ?_, fun b hb => by simp -implicitDefEqProofs (disch := omega) only [go_sem, seval, hold]⟩
   refine ⟨_, rfl, by rw [Blk.jR]; exact c2, by rw [Blk.yU]; exact c3, ?_⟩
   rw [show (j + 1) * 128 = j * 128 + 128 by omega, gets_split, flatF]
   have hh1 : (cc.jL (j * 128) (D.fl j)).gets 0 (j * 128) = flatF D.fl j := by
    rw [Blk.gets_putA_ne (by omega) (by omega)]; exact c4
   have hh2 : (cc.jL (j * 128) (D.fl j)).gets (j * 128) 128 = D.fl j := Blk.xM (by omega) (by omega)
   rw [Nat.zero_add, hh1, hh2]
  ·have : j = D.n := by omega
   subst this
   simp -implicitDefEqProofs (disch := omega) only [go_sem, seval, ↓reduceIte, ir56_l0, t19, t20, t3]
   exact ⟨gn, ⟨cc, c1, c2, c3, c4⟩, hold⟩
variable {h g : Heap} {R W M N N' : Set'} {bd lp rd rp fr ct : Nat} {D : DS} {G : LgS}
theorem bytes_dk (hx : DkX h M bd D) (hR : ∀ b, R b) : SF Try.prog 56 [.ptr (some (bd, 0))] h R W fun v g => LR g (fun k => h.n ≤ k) v (flatF D.fl D.n) ∧ Byt (flatF D.fl D.n) ∧ h.n ≤ g.n ∧ ∀ b, b < h.n → g.get b = h.get b := by
 obtain ⟨⟨L, hd, hf⟩, hlt⟩ := hx
 refine SF.mono (bytes_ok (R := R) (W := W) hd (fun b _ => hR b)) ?_
 rintro v g ⟨rfl, n1, ⟨cc, c1, c2, c3, c4⟩, k1⟩
 have hl : (flatF D.fl D.n).length = D.n * 128 := flatF_len hd.fl
 exact ⟨.inr ⟨h.n, 0, D.n * 128, true, cc, 5, by rw [hl], Nat.le_refl _, c1, by omega, by rw [hl]; exact c4⟩, flatF_int hd.fl, by omega, k1⟩
theorem rbytes_rk (hx : RkX h M rd D) (hR : ∀ b, R b) : SF Try.prog 57 [.ptr (some (rd, 0))] h R W fun v g => LR g (fun k => h.n ≤ k) v (flatF D.fl D.n) ∧ h.n ≤ g.n ∧ ∀ b, b < h.n → g.get b = h.get b := by
 obtain ⟨⟨fb, pb, hr⟩, _⟩ := hx
 refine SF.mono (rbytes_ok (R := R) (W := W) hr.at hR).kept ?_
 rintro v g ⟨⟨ho, hk⟩, vf⟩
 exact ⟨ho.lr, vf.n, hk⟩
set_option maxHeartbeats 8000000 in
theorem same_ok (hx : DkX h M bd D) (hy : RkX h N rd D) (hR : ∀ b, R b) : SF Try.prog 27 [.ptr (some (bd, 0)), .ptr (some (rd, 0))] h R W fun v g => v = .bool true ∧ h.n ≤ g.n ∧ ∀ b, b < h.n → g.get b = h.get b := by
 have hp := hx.pos
 have hR' : ∀ b, h.n ≤ b ∨ R b := fun b => .inr (hR b)
 refine SF.go hm Try.func27 ir27_eq ?_
 simp -implicitDefEqProofs (disch := omega) only [go_sem, seval, ↓reduceIte, reduceCtorEq, ir27]
 refine qN.of (SF.foot (bytes_dk (R := qR) (W := noW) hx (fun _ => trivial)) (fun _ h => h) (fun _ h => h)) ?_
 rintro v1 g1 ⟨q1, hby, n1, k1⟩
 obtain ⟨rs1, u1, hu1⟩ := jI q1 hby
 simp -implicitDefEqProofs (disch := omega) only [go_sem, seval, ↓reduceIte, reduceCtorEq, cvSD, u1]
 refine qN.of (SF.foot (rbytes_rk (R := qR) (W := noW) (hy.old n1 k1) (fun _ => trivial)) (fun _ h => h) (fun _ h => h)) ?_
 rintro v2 g2 ⟨q2, n2, k2⟩
 obtain ⟨rs2, u2, hu2⟩ := jI q2 hby
 simp -implicitDefEqProofs (disch := omega) only [go_sem, seval, ↓reduceIte, reduceCtorEq, cvSD, u2, sb_self]
 have k12 : ∀ b, b < h.n → g2.get b = h.get b := fun b hb => by rw [k2 b (by omega), k1 b hb]
 refine ⟨?_, ⟨fun b _ _ => hR' b, fun b _ h => h.elim, fun b _ _ => hR' b, fun b _ _ => hR' b, fun b _ h => h.elim, fun b _ _ => hR' b⟩, ?_⟩
 ·repeat' apply And.intro
  all_goals
   intro b hb hc
   simp [noW, qR] at hb hc
   try omega
 refine kE.inv hm (fun k f g => f.mks = [] ∧ f.tm.n = 38 ∧ f.tm.get 0 = some (.ptr (some (bd, 0))) ∧ f.tm.get 1 = some (.ptr (some (rd, 0))) ∧ ∃ i : Nat, i + k = D.n ∧ f.tm.get 5 = some (.int .i64 (i : Int)) ∧ h.n ≤ g.n ∧ ∀ b, b < h.n → g.get b = h.get b) D.n ?_ ?_
 ·exact ⟨rfl, rfl, by simp -implicitDefEqProofs (disch := omega) only [go_sem, seval, ↓reduceIte], by simp -implicitDefEqProofs (disch := omega) only [go_sem, seval, ↓reduceIte, reduceCtorEq], 0, by omega, by simp -implicitDefEqProofs (disch := omega) only [go_sem, seval, ↓reduceIte, reduceCtorEq], by omega, k12⟩
 clear k12 k1 k2 q1 q2 n1 n2 u1 u2 hu1 hu2
 rintro k ⟨⟨n', tr⟩, mks⟩ g ⟨hmk, hn', t0, t1, i, hik, t5, hng, kg⟩
 simp only [Tm.kL] at hmk hn' t0 t1 t5
 subst hmk hn'
 have hxg := hx.old hng kg
 simp -implicitDefEqProofs (disch := omega) only [go_sem, seval, ↓reduceIte, reduceCtorEq, ir27_l0, t0, t5]
 refine qK.of (size_dk hxg hR') ?_
 rintro r g ⟨rfl, rfl⟩
 by_cases hi : i < D.n
 rotate_left
 ·have hci : ¬ (i : Int) < (D.n : Int) := by omega
  simp -implicitDefEqProofs (disch := omega) only [go_sem, seval, ↓reduceIte, hci]
  exact ⟨hng, kg⟩
 have hci : (i : Int) < (D.n : Int) := by omega
 simp -implicitDefEqProofs (disch := omega) only [go_sem, seval, ↓reduceIte, reduceCtorEq, t0, t5, hci]
 refine qK.of (SF.foot (read_dk (R := qR) (W := noW) hxg (fun _ => trivial) hi) (fun b _ => hR' b) (fun _ h => h.elim)) ?_
 rintro r g3 ⟨b, rfl, hb, n3, k3⟩
 obtain ⟨_, sb⟩ := hxg.sec hi
 obtain ⟨rs3, u3, hu3⟩ := jI hb sb
 simp -implicitDefEqProofs (disch := omega) only [go_sem, seval, ↓reduceIte, t1, t5, cvSD, u3]
 refine qN.of (SF.foot (seen_rk (R := qR) (W := noW) (hy.old (g := g3) (by omega) fun b hb => by rw [k3 b (by omega), kg b hb]) (fun _ => trivial) hi) (fun _ h => h) (fun _ h => h)) ?_
 rintro sv g3 ⟨hsv, rfl⟩
 obtain ⟨rs4, u4, hu4⟩ := jI hsv.1 sb
 simp -implicitDefEqProofs (disch := omega) only [go_sem, seval, ↓reduceIte, reduceCtorEq, t0, t1, t5, cvSD, u4, sb_self]
 refine ⟨?_, ⟨fun b _ _ => hR' b, fun b _ _ => hR' b, fun b _ h => h.elim, fun b _ _ => hR' b⟩, k - 1, by omega, i + 1, by omega, by simp, by omega, fun b hb => by rw [k3 b (by omega), kg b hb]⟩
 repeat' apply And.intro
 all_goals
  intro b hb hc
  simp [noW, qR] at hb hc
  try omega
end Go.Proofs.Ytakgjjbmniilhaa
set_option maxRecDepth 100000
set_option linter.unusedVariables false
namespace Go.Proofs.Ytakgjjbmniilhaa
open Go Go.Vm
attribute [-go_sem] qQ
variable {h g : Heap} {R W M N : Set'} {bd lp fr ct : Nat} {D : DS} {G : LgS}
theorem TwoQ.same (hx : DkX h M bd D) (hl : LgX h N lp bd fr ct G) (hMN : ∀ k, N k → ¬ M k) (hn : h.n ≤ g.n) (hk : ∀ k, k < h.n → g.get k = h.get k) : TwoQ h g M N lp bd fr ct D G :=
 ⟨hn, fun k h1 _ _ => hk k h1, M, N, hx.old hn hk, hl.keep hn fun k h1 _ => hk k h1, fun k h1 => .inl h1, fun k h1 => .inl h1, hMN⟩
theorem cvS22 {M : MP} {R W : Set'} {tm : Tm} {h : Heap} {K : V → Heap → Prop} (x : Operand) : LOp M R W tm h (.convert 22 22 x) K = onO (evV tm x) fun a => onO (selfV M.P 22 a h) fun p => allB R p.r ∧ allB W p.w ∧ K p.v p.h := by
 have hb : Nat.beq 22 22 = true := rfl
 unfold LOp SOp bare; simp only [evP]
 cases evV tm x with
 | none => simp [onO]
 | some a => simp only [kU]; cases selfV M.P 22 a h <;> simp [onO]
end Go.Proofs.Ytakgjjbmniilhaa
set_option maxRecDepth 100000
set_option linter.unusedVariables false
namespace Go.Proofs.Ytakgjjbmniilhaa
open Go Go.Vm
attribute [-go_sem] qQ
variable {h g : Heap} {R W M N N' : Set'} {bd lp rd rp fr ct : Nat} {D : DS} {G : LgS}
structure LsOk (p : Nat) (s : LS) : Prop where
 at' : s.at' + s.cn = p
 rs : s.rs.length ≤ p
 rc : s.rc.length ≤ 108 * p
 by' : Byt s.rc
 rb : ∀ l ∈ s.rs, Byt l ∧ l.length ≤ 108 * p
theorem LsOk.good {p : Nat} {s : LS} {r : Rc} (hs : LsOk p s) (hd : r.dat.length ≤ 108 ∧ Byt r.dat) : LsOk (p + 1) (yB s r) := by
 obtain ⟨h1, h2, h3, h4, h5⟩ := hs
 by_cases he : r.pl + 1 = r.of
 ·rw [good_end he]
  refine ⟨by simp only; omega, by simp only [List.length_append, List.length_cons, List.length_nil]; omega, by simp, Byt.nil, fun l hl => ?_⟩
  rcases List.mem_append.1 hl with hl | hl
  ·exact ⟨(h5 l hl).1, by have := (h5 l hl).2; omega⟩
  ·rw [List.mem_singleton.1 hl]
   exact ⟨h4.app hd.2, by rw [List.length_append]; omega⟩
 ·rw [good_mid he]
  exact ⟨by simp only [midL]; omega, by simp only [midL]; omega, by simp only [midL, List.length_append]; omega, h4.app hd.2, fun l hl => ⟨(h5 l hl).1, by have := (h5 l hl).2; omega⟩⟩
theorem runL_ok {sec : Nat → List V} {lim : Nat} (he : Nat) (hs : ∀ j, j < lim → Byt (sec j)) : ∀ (k i : Nat) (s : LS), LsOk i s → i + k ≤ lim → ∃ p, LsOk p (jU sec he k i s) ∧ p ≤ i + k
 | 0, i, s, h, _ => ⟨i, h, Nat.le_refl _⟩
 | k + 1, i, s, h, hi => by
  unfold jU
  cases hr : jT (sec i) with
  | none => exact ⟨i, h, by omega⟩
  | some r =>
   simp only
   split
   ·exact ⟨i, h, by omega⟩
   ·obtain ⟨p, q1, q2⟩ := runL_ok he hs k (i + 1) (yB s r) (h.good (recA_dat (hs i (by omega)) hr)) (by omega)
    exact ⟨p, q1, by omega⟩
structure GIn (ct b : Nat) (G : LgS) : Prop where
 ha : G.H.ha < 2
 at' : G.at' ≤ (ct - 2) / 2
 sb : Byt G.sn
 sl : G.sn.length ≤ (ct - 2) / 2 * 120
 ep : G.H.ep ≤ 4611686018427387904 + b
 fi : G.H.fi ≤ 4611686018427387904
 nx : 1 ≤ G.nx ∧ G.nx ≤ 4611686018427387904 + 4096 + b
 sy : G.sy ≤ 4611686018427387904 + 4096 + b
 rl : G.rs.length ≤ 4096 + b
 rb : ∀ l ∈ G.rs, Byt l ∧ l.length ≤ 1000000
theorem GIn.ok {b : Nat} (h : GIn ct b G) (hc : ct ≤ 4096) (hb : b ≤ 1000) : GOk G := by
 obtain ⟨h1, h2, h3, h4, h5, h6, h7, h8, h9, h10⟩ := h
 exact ⟨h3, by omega, by omega, by omega, by omega, h6, by omega, by omega, h10⟩
theorem openA_in {D' : DS} (hs : ∀ s, s < D.n → (D.seen s).length = 128 ∧ Byt (D.seen s)) (hc : 16 ≤ ct ∧ fr + ct ≤ D.n) (hD : D.n ≤ 4096) (h : openA D fr ct = some (D', G)) : GIn ct 1 G ∧ D'.n = D.n ∧ ∀ j, Few D j → Few D' (j + 1) := by
 unfold openA at h
 rw [Option.map_eq_some_iff] at h
 obtain ⟨H, hw, h⟩ := h
 cases h
 obtain ⟨f1, f2, f3, f4, f5, f6⟩ := whichA_ok hw
 have hsec : ∀ j, j < (ct - 2) / 2 → (zH D fr ct H.ha j).length = 128 ∧ Byt (zH D fr ct H.ha j) := fun j hj => hs _ (by have := half_lt f5 hj; omega)
 have hK : qL H.sz ≤ (ct - 2) / 2 := by unfold qL; omega
 have hsl : (jS (zH D fr ct H.ha) (qL H.sz)).length = 120 * qL H.sz := snapC_len fun i hi => (hsec i (by omega)).1
 have hsb : Byt (jS (zH D fr ct H.ha) (qL H.sz)) := snapC_byt fun i hi => (hsec i (by omega)).2
 have hnx := loadF_nx D fr ct H
 obtain ⟨p, hp, hpl⟩ := runL_ok (sec := zH D fr ct H.ha) (lim := (ct - 2) / 2) H.ep (fun j hj => (hsec j hj).2) ((ct - 2) / 2 - qL H.sz) (qL H.sz) (kN H.fi H.si [] (qL H.sz)) ⟨by simp [kN], by simp [kN], by simp [kN], Byt.nil, fun l hl => by simp [kN] at hl⟩ (by omega)
 have e1 : (zX D fr ct H).1 = (jU (zH D fr ct H.ha) H.ep ((ct - 2) / 2 - qL H.sz) (qL H.sz) (kN H.fi H.si [] (qL H.sz))).rs := rfl
 have e2 : (zX D fr ct H).2.1 = (jU (zH D fr ct H.ha) H.ep ((ct - 2) / 2 - qL H.sz) (qL H.sz) (kN H.fi H.si [] (qL H.sz))).at' := rfl
 obtain ⟨p1, p2, p3, p4, p5⟩ := hp
 refine ⟨⟨f5, by show (zX D fr ct H).2.1 ≤ _; rw [e2]; omega, hsb.take _, ?_, by show H.ep + 1 ≤ _; omega, f2, ⟨by show 1 ≤ (zX D fr ct H).2.2; omega, by show (zX D fr ct H).2.2 ≤ _; omega⟩, by show (zX D fr ct H).2.2 - 1 ≤ _; omega, by show (zX D fr ct H).1.length ≤ _; rw [e1]; omega, fun l hl => ?_⟩, rfl, fun j hj => few_lay hj⟩
 ·show (snapA D fr ct H).length ≤ _
  unfold snapA; rw [List.length_take]; omega
 ·obtain ⟨q1, q2⟩ := p5 l (e1 ▸ hl)
  exact ⟨q1, by omega⟩
theorem GIn.app {b n : Nat} {l : List V} (h : GIn ct b G) (hn : G.at' + n ≤ (ct - 2) / 2) (hl : Byt l ∧ l.length ≤ 1000000) : GIn ct (b + 1) { G with at' := G.at' + n, nx := G.nx + 1, rs := G.rs ++ [l] } := by
 obtain ⟨h1, h2, h3, h4, h5, h6, h7, h8, h9, h10⟩ := h
 refine ⟨h1, hn, h3, h4, by show G.H.ep ≤ _; omega, h6, ⟨by show 1 ≤ G.nx + 1; omega, by show G.nx + 1 ≤ _; omega⟩, by show G.sy ≤ _; omega, by show (G.rs ++ [l]).length ≤ _; rw [List.length_append, List.length_singleton]; omega, fun l' hl' => ?_⟩
 rcases List.mem_append.1 hl' with hl' | hl'
 ·exact h10 l' hl'
 ·rw [List.mem_singleton.1 hl']; exact hl
end Go.Proofs.Ytakgjjbmniilhaa
set_option maxRecDepth 100000
set_option linter.unusedVariables false
namespace Go.Proofs.Ytakgjjbmniilhaa
open Go Go.Vm
attribute [-go_sem] qQ
variable {h g : Heap} {R W M N M' N' : Set'} {bd lp rd rp fr ct : Nat} {D D' : DS} {G G' : LgS}
structure Bth (g : Heap) (n0 : Nat) (M N M' N' : Set') (bd lp rd rp fr ct : Nat) (D : DS) (G : LgS) (D' : DS) (G' : LgS) : Prop where
 x : DkX g M bd D
 l : LgX g N lp bd fr ct G
 y : RkX g M' rd D'
 r : RgX g N' rp rd fr ct G'
 nm : ∀ k, N k → ¬ M k
 nm' : ∀ k, N' k → ¬ M' k
 ap : ∀ k, M k ∨ N k → ¬ (M' k ∨ N' k)
 lo : ∀ k, (M k ∨ N k) ∨ (M' k ∨ N' k) → n0 ≤ k
theorem Bth.lt {n0 : Nat} (hb : Bth g n0 M N M' N' bd lp rd rp fr ct D G D' G') : ∀ k, (M k ∨ N k) ∨ (M' k ∨ N' k) → k < g.n := fun k hk => by
 rcases hk with (h | h) | (h | h)
 ·exact hb.x.lt k h
 ·exact hb.l.lt k h
 ·exact hb.y.2 k h
 ·exact hb.r.lt k h
theorem Bth.prog {n0 lp2 : Nat} {D2 : DS} {G2 : LgS} {g' : Heap} (hb : Bth g n0 M N M' N' bd lp rd rp fr ct D G D' G') (hn : n0 ≤ g.n) (hq : TwoQ g g' M N lp2 bd fr ct D2 G2) : ∃ M2 N2, Bth g' n0 M2 N2 M' N' bd lp2 rd rp fr ct D2 G2 D' G' ∧ (∀ k, M2 k → M k ∨ g.n ≤ k) ∧ (∀ k, N2 k → N k ∨ g.n ≤ k) := by
 have hlt := hb.lt
 obtain ⟨n1, k1, M2, N2, x2, l2, m2, nn2, d2⟩ := hq
 have hk : ∀ k, M' k ∨ N' k → g'.get k = g.get k := fun k hk => k1 k (hlt k (.inr hk)) (fun h => hb.ap k (.inl h) hk) fun h => hb.ap k (.inr h) hk
 have ho : ∀ k, M2 k ∨ N2 k → (M k ∨ N k) ∨ g.n ≤ k := fun k hk => hk.elim (fun h => (m2 k h).imp .inl id) fun h => (nn2 k h).imp .inr id
 refine ⟨M2, N2, ⟨x2, l2, hb.y.same n1 fun k h => hk k (.inl h), hb.r.keep n1 fun k _ h => hk k (.inr h), d2, hb.nm', fun k h1 h2 => ?_, fun k h => ?_⟩, m2, nn2⟩
 ·rcases ho k h1 with h3 | h3
  ·exact hb.ap k h3 h2
  ·have := hlt k (.inr h2); omega
 ·rcases h with h | h
  ·rcases ho k h with h3 | h3
   ·exact hb.lo k (.inl h3)
   ·omega
  ·exact hb.lo k (.inr h)
theorem Bth.doc {n0 rp2 : Nat} {D2 : DS} {G2 : LgS} {g' : Heap} (hb : Bth g n0 M N M' N' bd lp rd rp fr ct D G D' G') (hn : n0 ≤ g.n) (hq : RwoQ g g' M' N' rp2 rd fr ct D2 G2) : ∃ M2 N2, Bth g' n0 M N M2 N2 bd lp rd rp2 fr ct D G D2 G2 ∧ (∀ k, M2 k → M' k ∨ g.n ≤ k) ∧ (∀ k, N2 k → N' k ∨ g.n ≤ k) := by
 have hlt := hb.lt
 obtain ⟨n1, k1, M2, N2, x2, l2, m2, nn2, d2⟩ := hq
 have hk : ∀ k, M k ∨ N k → g'.get k = g.get k := fun k hk => k1 k (hlt k (.inl hk)) (fun h => hb.ap k hk (.inl h)) fun h => hb.ap k hk (.inr h)
 have ho : ∀ k, M2 k ∨ N2 k → (M' k ∨ N' k) ∨ g.n ≤ k := fun k hk => hk.elim (fun h => (m2 k h).imp .inl id) fun h => (nn2 k h).imp .inr id
 refine ⟨M2, N2, ⟨hb.x.same n1 fun k h => hk k (.inl h), hb.l.keep n1 fun k _ h => hk k (.inr h), x2, l2, hb.nm, d2, fun k h1 h2 => ?_, fun k h => ?_⟩, m2, nn2⟩
 ·rcases ho k h2 with h3 | h3
  ·exact hb.ap k h1 h3
  ·have := hlt k (.inl h1); omega
 ·rcases h with h | h
  ·exact hb.lo k (.inl h)
  ·rcases ho k h with h3 | h3
   ·exact hb.lo k (.inr h3)
   ·omega
def AppB (ct : Nat) (G : LgS) (l : List V) : Int × Bool := if 6912 < l.length then (3, false) else if (ct - 2) / 2 < (kF l.length).1 + G.at' then (5, false) else (0, true)
def appD (D : DS) (fr ct : Nat) (G : LgS) (l : List V) : DS := if (AppB ct G l).2 then appW D fr ct G l (kF l.length).1 (kF l.length).1 else D
def appG (ct : Nat) (G : LgS) (l : List V) : LgS := if (AppB ct G l).2 then { G with at' := G.at' + (kF l.length).1, nx := G.nx + 1, rs := G.rs ++ [l] } else G

theorem RwoQ.same (hx : RkX h M rd D) (hl : RgX h N rp rd fr ct G) (hMN : ∀ k, N k → ¬ M k) (hn : h.n ≤ g.n) (hk : ∀ k, k < h.n → g.get k = h.get k) : RwoQ h g M N rp rd fr ct D G :=
 ⟨hn, fun k h1 _ _ => hk k h1, M, N, hx.old hn hk, hl.keep hn fun k h _ => hk k h, fun k h => .inl h, fun k h => .inl h, hMN⟩
theorem AppQ.two {l : List V} {r : V} (hq : AppQ h M N lp bd fr ct D G l r g) (hx : DkX h M bd D) (hl : LgX h N lp bd fr ct G) (hMN : ∀ k, N k → ¬ M k) : r = .tuple [.int .i64 (if (AppB ct G l).2 then (G.nx : Int) else 0), .int .i64 (AppB ct G l).1] ∧ TwoQ h g M N lp bd fr ct (appD D fr ct G l) (appG ct G l) := by
 unfold AppQ at hq
 unfold appD appG AppB
 split at hq
 ·rename_i h1
  simp only [if_pos h1]
  exact ⟨hq.1, TwoQ.same hx hl hMN hq.2.1 hq.2.2⟩
 ·rename_i h1
  simp only [if_neg h1]
  split at hq
  ·rename_i h2
   simp only [if_pos h2]
   exact ⟨hq.1, TwoQ.same hx hl hMN hq.2.1 hq.2.2⟩
  ·rename_i h2
   simp only [if_neg h2]
   exact hq
theorem RAppQ.two {l : List V} {r : V} (hq : RAppQ h M N rp rd fr ct D G l r g) (hx : RkX h M rd D) (hl : RgX h N rp rd fr ct G) (hMN : ∀ k, N k → ¬ M k) : r = .tuple [.int .i64 (if (AppB ct G l).2 then (G.nx : Int) else 0), .int .i64 (AppB ct G l).1] ∧ RwoQ h g M N rp rd fr ct (appD D fr ct G l) (appG ct G l) := by
 unfold RAppQ at hq
 unfold appD appG AppB
 split at hq
 ·rename_i h1
  simp only [if_pos h1]
  exact ⟨hq.1, RwoQ.same hx hl hMN hq.2.1 hq.2.2⟩
 ·rename_i h1
  simp only [if_neg h1]
  split at hq
  ·rename_i h2
   simp only [if_pos h2]
   exact ⟨hq.1, RwoQ.same hx hl hMN hq.2.1 hq.2.2⟩
  ·rename_i h2
   simp only [if_neg h2]
   exact hq
theorem appG_in {b : Nat} {l : List V} (h : GIn ct b G) (hl : Byt l ∧ l.length ≤ 1000000) : GIn ct (b + 1) (appG ct G l) := by
 unfold appG
 split
 ·rename_i hc
  refine h.app ?_ hl
  unfold AppB at hc
  split at hc
  ·cases hc
  ·split at hc
   ·cases hc
   ·omega
 ·exact ⟨h.ha, h.at', h.sb, h.sl, by have := h.ep; omega, h.fi, ⟨h.nx.1, by have := h.nx.2; omega⟩, by have := h.sy; omega, by have := h.rl; omega, h.rb⟩
end Go.Proofs.Ytakgjjbmniilhaa
set_option maxRecDepth 100000
set_option linter.unusedVariables false
namespace Go.Proofs.Ytakgjjbmniilhaa
open Go Go.Vm
attribute [-go_sem] qQ
variable {h g : Heap} {R W M N : Set'} {bd lp fr ct : Nat} {D : DS} {G : LgS}
theorem full_lr {v : V} {S : Set'} {l : List V} (hv : LR h S v l) (hc : xU v) {a b : Nat} (hab : a < b) (hb : b ≤ l.length) : ∃ v', kC Try.prog 22 v (some (a : Int)) (some (b : Int)) (some (b : Int)) = some v' ∧ LR h S v' ((l.drop a).take (b - a)) := by
 rcases hv with ⟨rfl, _⟩ | ⟨p, o, cap, ex, c, ce, rfl, hR, hp, hs, hg⟩
 ·simp at hb; omega
 ·have hcl : l.length ≤ cap := hc
  have hbv : kJ l.length cap (some (a : Int)) (some (b : Int)) (some (b : Int)) = some (a, b, b) := by
   simp only [kJ, Int.toNat_natCast]
   rw [if_pos (by constructor <;> omega)]
   simp only []
   rw [if_pos (by constructor <;> omega)]
   simp only []
   rw [if_pos (by constructor <;> omega)]
  have hln : ((l.drop a).take (b - a)).length = b - a := by rw [List.length_take, List.length_drop]; omega
  refine ⟨.slice (some (p, o + a)) (b - a) (b - a) true, ?_, .inr ⟨p, o + a, b - a, true, c, ce, by rw [hln], hR, hp, by rw [hln]; omega, ?_⟩⟩
  ·simp only [kC, Try.underlying22, sz_5, hbv]
   rw [w_beq_f (show b ≠ a by omega), Nat.mul_one]
  ·rw [hln]
   refine Blk.jH (fun j hj => ?_) hln.symm
   rw [hln] at hj
   have := Blk.qM c l.length o (a + j) (by omega)
   rw [hg] at this
   rw [List.getD_eq_getElem?_getD, List.getElem?_take, if_pos hj, List.getElem?_drop, this, show o + a + j = o + (a + j) by omega]; rfl
def yC (l : List V) (p : Nat) : List V := (l.drop (120 * p)).take 120
set_option maxHeartbeats 8000000 in
theorem seq73 {b1 b2 y : Nat} {v : V} {l : List V} {S : Set'} (I : Nat → Heap → Prop) (h1 : ∃ c, h.get b1 = some (.cells c 22) ∧ c.size = 1 ∧ c.get 0 = v) (h2 : ∃ c, h.get b2 = some (.cells c 3) ∧ c.size = 1 ∧ c.get 0 = .int .i64 120) (hv : LR h S v l) (hc : xU v) (hll : l.length ≤ 1000000) (hI0 : I 0 h)
  (hx : ∀ p g, I p g → h.n ≤ g.n ∧ ∀ b, S b ∨ b = b1 ∨ b = b2 → b < h.n → g.get b = h.get b) (hW : ∀ b, W b → b < h.n)
  (hround : ∀ (p : Nat) g w, 120 * p < l.length → I p g → LR g S w (yC l p) → SY ⟨Try.prog, true⟩ y [w] g (fun _ => True) (fun b => h.n ≤ b ∨ W b) (fun x g' => x = .bool true ∧ I (p + 1) g')) :
  SF ⟨Try.prog, true⟩ 73 [.yield y, .ptr (some (b1, 0)), .ptr (some (b2, 0))] h (fun _ => True) W fun _ g => I (qL l.length) g := by
 obtain ⟨x1, p1, s1, q1⟩ := h1
 obtain ⟨x2, p2, s2, q2⟩ := h2
 refine SF.go hm Try.func73 ir73_eq ?_
 simp -implicitDefEqProofs (disch := omega) only [go_sem, seval, ↓reduceIte, reduceCtorEq, ir73]
 refine kE.inv hm (fun k f g => f.mks = [] ∧ f.tm.n = 31 ∧ f.tm.get 0 = some (.yield y) ∧ f.tm.get 1 = some (.ptr (some (b1, 0))) ∧ f.tm.get 2 = some (.ptr (some (b2, 0))) ∧ ∃ p : Nat, p + k = qL l.length ∧ f.tm.get 4 = some (.int .i64 ((120 * p : Nat) : Int)) ∧ I p g) (qL l.length) ?_ ?_
 ·exact ⟨rfl, rfl, by simp -implicitDefEqProofs (disch := omega) only [go_sem, seval, ↓reduceIte], by simp -implicitDefEqProofs (disch := omega) only [go_sem, seval, ↓reduceIte, reduceCtorEq], by simp -implicitDefEqProofs (disch := omega) only [go_sem, seval, ↓reduceIte, reduceCtorEq], 0, by omega, by simp -implicitDefEqProofs (disch := omega) only [go_sem, seval, ↓reduceIte, reduceCtorEq], hI0⟩
 rintro k ⟨⟨n', tr⟩, mks⟩ g ⟨hmk, hn', t0, t1, t2, p, hpk, t4, hI⟩
 simp only [Tm.kL] at hmk hn' t0 t1 t2 t4
 subst hmk hn'
 obtain ⟨hgn, hgk⟩ := hx p g hI
 have P1 := (hgk b1 (.inr (.inl rfl)) (Heap.lt_of_get p1)).trans p1
 have P2 := (hgk b2 (.inr (.inr rfl)) (Heap.lt_of_get p2)).trans p2
 have hvg : LR g S v l := hv.same fun b hb hlt => hgk b (.inl hb) hlt
 have hlen := hvg.lenV Try.underlying22
 by_cases hp : 120 * p < l.length
 rotate_left
 ·have hcc : ¬ ((120 * p : Nat) : Int) < (l.length : Int) := by omega
  have hpe : p = qL l.length := by
   have : qL l.length = (l.length + 119) / 120 := rfl
   omega
  simp -implicitDefEqProofs (disch := omega) only [go_sem, seval, ↓reduceIte, ir73_l0, t1, t4, P1, s1, q1, ↓hlen, hcc]
  exact hpe ▸ hI
 have hcc : ((120 * p : Nat) : Int) < (l.length : Int) := by omega
 obtain ⟨w1, hs1, hw1⟩ := rest_lr hvg hc (k := 120 * p) (by omega)
 obtain ⟨hw1, _⟩ := hw1 hp
 have hlen1 := hw1.lenV Try.underlying22
 rw [List.length_drop] at hlen1
 obtain ⟨kk, ekk⟩ : ∃ kk, kk = min (l.length - 120 * p) 120 := ⟨_, rfl⟩
 have hmin : (if ((l.length - 120 * p : Nat) : Int) < 120 then ((l.length - 120 * p : Nat) : Int) else 120) = (kk : Int) := by
  split <;> omega
 have e1 : ((120 * p : Nat) : Int) + (kk : Int) = ((120 * p + kk : Nat) : Int) := by omega
 have e2 : ((120 * p : Nat) : Int) + 120 = ((120 * (p + 1) : Nat) : Int) := by omega
 obtain ⟨w2, hs2, hw2⟩ := full_lr hvg hc (a := 120 * p) (b := 120 * p + kk) (by omega) (by omega)
 have hsb : (l.drop (120 * p)).take (120 * p + kk - 120 * p) = yC l p := by
  unfold yC
  by_cases h1 : l.length - 120 * p ≤ 120
  ·rw [List.take_of_length_le (by rw [List.length_drop]; omega), List.take_of_length_le (by rw [List.length_drop]; omega)]
  ·rw [show 120 * p + kk - 120 * p = 120 by omega]
 rw [hsb] at hw2
 have hsN : qL l.length = (l.length + 119) / 120 := rfl
 simp -implicitDefEqProofs (disch := omega) only [go_sem, seval, ↓reduceIte, reduceCtorEq, ir73_l0, t0, t1, t2, t4, P1, s1, q1, P2, s2, q2, ↓hlen, hcc, hs1, ↓hlen1, ↓hmin, e1, hs2]
 refine GYield.of (SY.foot (hround p g w2 hp hI hw2) (fun _ h => h) (fun _ h => h)) ?_
 rintro x g2 ⟨rfl, hI2⟩
 have P2' := ((hx (p + 1) g2 hI2).2 b2 (.inr (.inr rfl)) (Heap.lt_of_get p2)).trans p2
 simp -implicitDefEqProofs (disch := omega) only [go_sem, seval, ↓reduceIte, reduceCtorEq, t0, t1, t2, t4, P2', s2, q2, e2]
 exact ⟨k - 1, by omega, p + 1, by omega, rfl, hI2⟩
theorem chunk43 {v : V} (hv : v.one = true) : SF Try.prog 43 [v, .int .i64 120] h R W fun r g => r = .func 73 [] [.ptr (some (h.n, 0)), .ptr (some (h.n + 1, 0))] ∧ g = (h.push (.cells (Blk.of [v]) 22)).push (.cells (Blk.of [.int .i64 120]) 3) := by
 have hc := one_cells hv
 refine SF.go hm Try.func43 ir43_eq ?_
 simp -implicitDefEqProofs (disch := first | omega | (simp -implicitDefEqProofs only [szs, ne_eq] <;> omega) | fail) only [go_sem, seval, ↓reduceIte, reduceCtorEq, ir43, ↓hc]
end Go.Proofs.Ytakgjjbmniilhaa
set_option maxRecDepth 100000
set_option linter.unusedVariables false
namespace Go.Proofs.Ytakgjjbmniilhaa
open Go Go.Vm
attribute [-go_sem] qQ
variable {h g : Heap} {R W M N : Set'} {bd lp fr ct : Nat} {D : DS} {G : LgS}
def snapS (l : List V) (p : Nat) : List V := padB (zK 0 ++ yC l p)
def snapW (D : DS) (base : Nat) (l : List V) : Nat → DS
 | 0 => D
 | p + 1 => (snapW D base l p).write (base + p) (snapS l p)
theorem snapW_n (D : DS) (base : Nat) (l : List V) : ∀ k, (snapW D base l k).n = D.n
 | 0 => rfl
 | k + 1 => snapW_n D base l k
theorem snapW_pe (D : DS) (base : Nat) (l : List V) : ∀ k s, base + k ≤ s → (snapW D base l k).pe s = D.pe s
 | 0, _, _ => rfl
 | k + 1, s, h => by
  show (if s = _ then _ else _) = _
  rw [if_neg (by omega)]
  exact snapW_pe D base l k s (by omega)
theorem snapB_len (l : List V) (p : Nat) : (yC l p).length ≤ 120 := by unfold yC; rw [List.length_take]; omega
theorem bigB_len8 : (zK 0).length = 8 := by decide
noncomputable def lvK (tr : Tr V) (m : Nat) : Loopv := ⟨.ready, none, ⟨95, tr⟩, [56], (rc18 0).1, (rc18 0).2, m⟩
structure CkI (h g : Heap) (M : Set') (bd y b8 base : Nat) (D : DS) (l : List V) (lv : Loopv) (p : Nat) : Prop where
 n : h.n ≤ g.n
 k : ∀ b, b < h.n → ¬ M b → b ≠ y → b ≠ b8 → g.get b = h.get b
 y : g.get y = some (.loop lv)
 c : ∃ c, g.get b8 = some (.cells c 3) ∧ c.size = 1 ∧ c.ro = false ∧ c.get 0 = .int .i64 ((base + p : Nat) : Int)
 x : ∃ Mi, DkX g Mi bd (snapW D base l p) ∧ ∀ k, Mi k → M k ∨ h.n ≤ k
set_option maxHeartbeats 8000000 in
theorem rnd18 {y m b2 b8 base p : Nat} {tr : Tr V} {w : V} {l : List V} {S : Set'} (hI : CkI h g M bd y b8 base D l (lvK tr m) p) (hMl : ∀ k, M k → k < h.n ∧ k ≠ y ∧ k ≠ b8 ∧ k ≠ b2 ∧ k ≠ lp) (hlo : y < h.n ∧ b8 < h.n ∧ b2 < h.n ∧ lp < h.n ∧ b2 ≠ y ∧ b2 ≠ b8 ∧ lp ≠ y ∧ lp ≠ b8 ∧ b8 ≠ y)
  (t2 : tr.get 2 = some (.ptr (some (b2, 0)))) (t8 : tr.get 8 = some (.ptr (some (b8, 0))))
  (c2 : ∃ c, h.get b2 = some (.cells c 32) ∧ c.size = 1 ∧ c.get 0 = .ptr (some (lp, 0))) (cl : ∃ c, h.get lp = some (.cells c 47) ∧ c.size = 13 ∧ c.get 0 = .ptr (some (bd, 0)))
  (hw : LR g S w (yC l p)) (hS : ∀ b, S b → b ≠ y) (hby : Byt (yC l p)) (hsn : base + p < D.n) (hD : D.n ≤ 4096) (few : ∀ s, (D.pe s).length < 1000000000) :
  SY ⟨Try.prog, true⟩ y [w] g (fun _ => True) (fun b => h.n ≤ b ∨ (M b ∨ b = y ∨ b = b8)) (fun z g' => z = .bool true ∧ CkI h g' M bd y b8 base D l (lvK tr m) (p + 1)) := by
 have hwo := hw.one
 obtain ⟨i1, i2, i3, ⟨c8, i4, i5, i6, i7⟩, Mi, i8, i9⟩ := hI
 have hlt := Heap.lt_of_get i3
 obtain ⟨hy, h8, h2, hlp, e2y, e28, ely, el8, e8y⟩ := hlo
 simp only [lvK] at i3 ⊢
 refine SY.go Go.Proofs.Ytakgjjbmniilhaa.hm i3 trivial (.inr (.inr (.inl rfl))) rfl ir18_a0_eq ir18_b0_eq ?_
 simp -implicitDefEqProofs (disch := omega) only [go_sem, seval, ↓reduceIte, ir18_a0]
 refine ⟨_, i3, rfl, ?_⟩
 obtain ⟨G1, eG⟩ : ∃ G1, G1 = g.set y (.loop ⟨.busy, none, ⟨95, tr⟩, [56], (rc18 0).1, (rc18 0).2, m⟩) := ⟨_, rfl⟩
 rw [← eG]
 have nG : G1.n = g.n := by rw [eG]; simp
 have kG : ∀ b, b ≠ y → G1.get b = g.get b := fun b h1 => by rw [eG, qB hlt h1]
 have lG : G1.get y = some (.loop ⟨.busy, none, ⟨95, tr⟩, [56], (rc18 0).1, (rc18 0).2, m⟩) := by rw [eG]; exact qF hlt rfl _
 clear eG
 obtain ⟨x2, a2, s2, v2⟩ := c2
 obtain ⟨xl, al, sl, vl⟩ := cl
 have nM2 : ¬ M b2 := fun h => (hMl _ h).2.2.2.1 rfl
 have nMl : ¬ M lp := fun h => (hMl _ h).2.2.2.2 rfl
 have A2 := ((kG b2 e2y).trans (i2 b2 h2 nM2 e2y e28)).trans a2
 have Al := ((kG lp ely).trans (i2 lp hlp nMl ely el8)).trans al
 have A8 := (kG b8 e8y).trans i4
 have hMi : ∀ k, Mi k → k ≠ y ∧ k ≠ b8 := fun k hk => (i9 k hk).elim (fun h => ⟨(hMl k h).2.1, (hMl k h).2.2.1⟩) fun h => by constructor <;> omega
 have hx1 : DkX G1 Mi bd (snapW D base l p) := i8.same (by omega) fun k hk => kG k (hMi k hk).1
 simp -implicitDefEqProofs (disch := omega) only [go_sem, seval, ↓reduceIte, ir18_b0, t2, t8, A2, s2, v2, Al, sl, vl, A8, i5, i7]
 have hbig : SF Try.prog 44 [.int .u64 0] G1 qR noW (fun r g => Own G1.n g r (zK 0) 5 ∧ G1.n ≤ g.n ∧ ∀ b, b < G1.n → g.get b = G1.get b) := big_ok (n := 0) fun _ => trivial
 refine qN.of (SF.foot hbig (fun _ h => h) (fun _ h => h)) ?_
 rintro r1 g1 ⟨o1, n1, k1⟩
 have hw1 : LR g1 S w (yC l p) := (hw.same (h' := G1) fun b hb _ => kG b (hS b hb)).old k1
 obtain ⟨v2', g2, r2, w2, hap, o2, n2, k2, hw2⟩ := appL o1 n1 hw1 hby (by have := snapB_len l p; rw [bigB_len8]; omega)
 have h1o := o1.lr.one
 have q3 : allB (fun x => True) r2 := qO fun b _ => trivial
 have hyn := Heap.lt_of_get lG
 have q4 : allB (fun b => h.n ≤ b ∨ M b ∨ b = y ∨ b = b8) w2 := qO fun b hb => .inl (by have := hw2 b hb; omega)
 simp -implicitDefEqProofs (disch := omega) only [go_sem, seval, ↓reduceIte, qU jO, hap]
 have hl2 : (zK 0 ++ yC l p).length ≤ 128 := by have := snapB_len l p; rw [List.length_append, bigB_len8]; omega
 have hb2 : Byt (zK 0 ++ yC l p) := (yS 0).app hby
 refine qN.of (SF.foot (sector_ok (R := qR) (W := noW) o2.lr (fun _ => trivial) hl2 hb2) (fun _ h => h) (fun _ h => h)) ?_
 rintro r3 g3 ⟨o3, n3, k3⟩
 have kg3 : ∀ b, b < G1.n → g3.get b = G1.get b := fun b hb => by rw [k3 b (by omega), k2 b hb, k1 b hb]
 have hx3 : DkX g3 Mi bd (snapW D base l p) := hx1.old (by omega) kg3
 simp -implicitDefEqProofs (disch := omega) only [go_sem, seval, ↓reduceIte]
 refine qN.of (R' := qR) (W' := Mi) ((write_dk (R := qR) (W := Mi) hx3 (fun _ => trivial) (fun _ h => h) (s := base + p) (by rw [snapW_n]; exact hsn) o3.lr (padB_len hl2) (byt_padB hb2) (by rw [snapW_pe D base l p _ (Nat.le_refl _)]; exact few _)).foot (fun _ h => h) (fun _ h => h)) ?_
 rintro r4 g4 ⟨rfl, ⟨n4, k4⟩, M4, hx4, hM4⟩
 have A8' : g4.get b8 = some (.cells c8 3) := by rw [k4 b8 (by omega) (fun h => (hMi b8 h).2 rfl), kg3 b8 (by omega)]; exact A8
 have L4 : g4.get y = some (.loop ⟨.busy, none, ⟨95, tr⟩, [56], (rc18 0).1, (rc18 0).2, m⟩) := by rw [k4 y (by omega) (fun h => (hMi y h).1 rfl), kg3 y (by omega)]; exact lG
 have l8 := Heap.lt_of_get A8'
 have e3 : ((base + p : Nat) : Int) + 1 = ((base + (p + 1) : Nat) : Int) := by omega
 have hp48 : base + p < 4096 := by omega
 simp -implicitDefEqProofs (disch := omega) only [go_sem, seval, ↓reduceIte, t8, A8', i5, i6, i7, e3]
 refine ⟨?_, ⟨fun b _ h => h.elim, fun b _ h => .inl (by have := hw2 b h; omega), fun b _ h => h.elim, fun b _ h => (i9 b h).elim (fun h => .inr (.inl h)) .inl⟩, _, L4, rfl, ?_⟩
 ·repeat' apply And.intro
  all_goals
   intro b hb hc
   simp [noW, qR] at hb hc
   try first
    | omega
    | (have := hw2 b hb.2; omega)
 have l4y := Heap.lt_of_get L4
 have kz : ∀ (x : Blk) (o : O) b, b ≠ y → b ≠ b8 → ((g4.set b8 (.cells x 3)).set y o).get b = g4.get b := fun x o b h1 h2 => by
  rw [qB (by simp only [Heap.n_set]; exact l4y) h1, qB l8 h2]
 refine ⟨by simp only [Heap.n_set]; omega, fun b h1 h2 h3 h4 => ?_, qF (by simp only [Heap.n_set]; exact l4y) rfl _, ⟨c8.set 0 (.int .i64 ((base + (p + 1) : Nat) : Int)), ?_, by simp only [Blk.size_set]; exact i5, by simp only [Blk.qY]; exact i6, by rw [Blk.get_set, if_pos rfl]⟩, M4, ?_, fun k hk => ?_⟩
 ·have hnM : ¬ Mi b := fun h => (i9 b h).elim h2 fun h => by omega
  rw [kz _ _ b h3 h4, k4 b (by omega) hnM, kg3 b (by omega), kG b h3, i2 b h1 h2 h3 h4]
 ·rw [qB (by simp only [Heap.n_set]; exact l4y) e8y]; exact qF l8 rfl _
 ·refine hx4.same (by simp only [Heap.n_set]; exact Nat.le_refl _) fun k hk => kz _ _ k ?_ ?_
  ·rcases hM4 k hk with h1 | h1
   ·exact (hMi k h1).1
   ·omega
  ·rcases hM4 k hk with h1 | h1
   ·exact (hMi k h1).2
   ·omega
 ·rcases hM4 k hk with h1 | h1
  ·exact i9 k h1
  ·exact .inr (by omega)
end Go.Proofs.Ytakgjjbmniilhaa
set_option maxRecDepth 100000
set_option linter.unusedVariables false
namespace Go.Proofs.Ytakgjjbmniilhaa
open Go Go.Vm
attribute [-go_sem] qQ
variable {h g : Heap} {R W M N : Set'} {bd lp fr ct : Nat} {D : DS} {G : LgS}
theorem snapB_byt {l : List V} (h : Byt l) (p : Nat) : Byt (yC l p) := (h.drop _).take _
set_option maxHeartbeats 8000000 in
theorem ck_rg {g : Heap} {Q : Ex → Fr → Heap → Prop} {t : List It} {mks : List Nat} {b1 bn b2 b8 base : Nat} {v : V} {l : List V} {S : Set'} {tr : Tr V} (hR : ∀ b, R b) (hW : ∀ k, M k ∨ k = b8 ∨ g.n ≤ k → W k)
  (hx : DkX g M bd D) (hM : ∀ k, M k → k ≠ b8 ∧ k ≠ b2 ∧ k ≠ lp ∧ k ≠ b1 ∧ k ≠ bn)
  (t2 : tr.get 2 = some (.ptr (some (b2, 0)))) (t8 : tr.get 8 = some (.ptr (some (b8, 0)))) (t55 : tr.get 55 = some (.func 73 [] [.ptr (some (b1, 0)), .ptr (some (bn, 0))]))
  (c2 : ∃ c, g.get b2 = some (.cells c 32) ∧ c.size = 1 ∧ c.get 0 = .ptr (some (lp, 0))) (cl : ∃ c, g.get lp = some (.cells c 47) ∧ c.size = 13 ∧ c.get 0 = .ptr (some (bd, 0)))
  (c8 : ∃ c, g.get b8 = some (.cells c 3) ∧ c.size = 1 ∧ c.ro = false ∧ c.get 0 = .int .i64 (base : Int)) (c1 : ∃ c, g.get b1 = some (.cells c 22) ∧ c.size = 1 ∧ c.get 0 = v) (cn : ∃ c, g.get bn = some (.cells c 3) ∧ c.size = 1 ∧ c.get 0 = .int .i64 120)
  (hne : b2 ≠ b8 ∧ lp ≠ b8 ∧ b1 ≠ b8 ∧ bn ≠ b8)
  (hv : LR g S v l) (hS : ∀ k, S k → ¬ M k ∧ k ≠ b8 ∧ k < g.n) (hc : xU v) (hby : Byt l) (hll : l.length ≤ 1000000) (hsn : base + qL l.length ≤ D.n) (hD : D.n ≤ 4096) (few : ∀ s, (D.pe s).length < 1000000000)
  (hk : ∀ g3 m M3, DkX g3 M3 bd (snapW D base l (qL l.length)) → (∀ k, M3 k → M k ∨ g.n ≤ k) → g.n ≤ m → ¬ M3 m → g3.get m = some (.deferred true) → g.n ≤ g3.n → (∀ b, b < g.n → ¬ M b → b ≠ b8 → g3.get b = g.get b) → GO ⟨Try.prog, true⟩ R W none Q t ⟨⟨95, tr⟩, m :: mks⟩ g3) :
  yH ⟨Try.prog, true⟩ R W none Q (.tmp 55) #[56] (rc18 0).1 (rc18 0).2 (.blk 0 :: t) ⟨⟨95, tr⟩, mks⟩ g := by
 refine yH.outer (k := 73) (xs := []) (ys := [.ptr (some (b1, 0)), .ptr (some (bn, 0))]) (by simp -implicitDefEqProofs (disch := omega) only [go_sem, seval, t55]) (by kernel_rfl) ?_
 obtain ⟨hA, eA⟩ : ∃ hA, hA = (g.push (.deferred true)).push (.loop (lvK tr g.n)) := ⟨_, rfl⟩
 rw [show (([] ++ [V.yield (g.n + 1)]) ++ [.ptr (some (b1, 0)), .ptr (some (bn, 0))] : List V) = [V.yield (g.n + 1), .ptr (some (b1, 0)), .ptr (some (bn, 0))] from rfl, show (#[56] : Array Tmp).toList = [56] from rfl, show (⟨.ready, none, ⟨95, tr⟩, [56], (rc18 0).1, (rc18 0).2, g.n⟩ : Loopv) = lvK tr g.n from rfl, ← eA]
 have nA : hA.n = g.n + 2 := by rw [eA]; simp
 have kA : ∀ b, b < g.n → hA.get b = g.get b := fun b hb => by rw [eA, qC (by simp; omega), qC (by omega)]
 have mA : hA.get g.n = some (.deferred true) := by rw [eA, qC (by simp)]; exact qH rfl _
 have lA : hA.get (g.n + 1) = some (.loop (lvK tr g.n)) := by rw [eA]; exact qH (by simp) _
 clear eA
 obtain ⟨x2, p2, q2⟩ := c2
 obtain ⟨xl, pl, ql⟩ := cl
 obtain ⟨x8, p8, q8⟩ := c8
 obtain ⟨x1, p1, q1⟩ := c1
 obtain ⟨xn, pn, qn⟩ := cn
 have l2 := Heap.lt_of_get p2
 have ll := Heap.lt_of_get pl
 have l8 := Heap.lt_of_get p8
 have l1 := Heap.lt_of_get p1
 have ln := Heap.lt_of_get pn
 have hMlt := hx.lt
 obtain ⟨n28, nl8, n18, nn8⟩ := hne
 have hsN : qL l.length = (l.length + 119) / 120 := rfl
 have I0 : CkI hA hA M bd (g.n + 1) b8 base D l (lvK tr g.n) 0 := ⟨Nat.le_refl _, fun _ _ _ _ _ => rfl, lA, ⟨x8, (kA b8 l8).trans p8, q8⟩, M, hx.old (by omega) kA, fun k h => .inl h⟩
 refine SF.mono (SF.foot (seq73 (h := hA) (y := g.n + 1) (W := fun b => M b ∨ b = g.n + 1 ∨ b = b8) (S := S) (v := v) (l := l) (fun p g' => CkI hA g' M bd (g.n + 1) b8 base D l (lvK tr g.n) p) ⟨x1, (kA b1 l1).trans p1, q1⟩ ⟨xn, (kA bn ln).trans pn, qn⟩ (hv.old kA) hc hll I0 (fun p g' hI => ⟨hI.n, fun b hb hlt => ?_⟩) (fun b hb => ?_) fun p g' w hp hI hw => ?_) (fun b _ => hR b) fun b hb => ?_) ?_
 ·rcases hb with hb | rfl | rfl
  ·obtain ⟨s1, s2, s3⟩ := hS b hb
   exact hI.k b hlt s1 (by omega) s2
  ·exact hI.k _ hlt (fun h => (hM _ h).2.2.2.1 rfl) (by omega) n18
  ·exact hI.k _ hlt (fun h => (hM _ h).2.2.2.2 rfl) (by omega) nn8
 ·rcases hb with hb | rfl | rfl
  ·have := hMlt b hb; omega
  ·omega
  ·omega
 ·refine SY.foot (rnd18 (h := hA) (M := M) (D := D) (lp := lp) (bd := bd) (y := g.n + 1) (m := g.n) (b2 := b2) (b8 := b8) (base := base) (p := p) (tr := tr) (l := l) (S := S) hI (fun k hk => ⟨by have := hMlt k hk; omega, by have := hMlt k hk; omega, (hM k hk).1, (hM k hk).2.1, (hM k hk).2.2.1⟩) ⟨by omega, by omega, by omega, by omega, by omega, n28, by omega, nl8, by omega⟩ t2 t8 ⟨x2, (kA b2 l2).trans p2, q2⟩ ⟨xl, (kA lp ll).trans pl, ql⟩ hw (fun b hb => by have := (hS b hb).2.2; omega) (snapB_byt hby p) (by omega) hD few) (fun _ h => h) (fun _ h => h)
 ·rcases hb with hb | rfl | rfl
  ·exact hW b (.inl hb)
  ·exact hW _ (by omega)
  ·exact hW _ (by omega)
 ·rintro v2 g2 hI
  have hlt := Heap.lt_of_get hI.y
  have hn2 := hI.n
  obtain ⟨Mi, x1', x2'⟩ := hI.x
  have hMy : ∀ k, Mi k → k ≠ g.n + 1 ∧ k ≠ g.n := fun k hk => (x2' k hk).elim (fun h => by have := hMlt k h; omega) fun h => by omega
  refine ⟨_, hI.y, by simp [lvK], hW _ (by omega), ?_⟩
  simp only [lvK]
  simp -implicitDefEqProofs (disch := omega) only [go_sem, seval]
  refine hk _ _ Mi (x1'.same (by rw [Heap.n_set]; exact Nat.le_refl _) fun k hk => qB hlt (hMy k hk).1 _) (fun k hk => (x2' k hk).imp id fun h => by omega) (Nat.le_refl _) (fun h => (hMy _ h).2 rfl) ?_ (by rw [Heap.n_set]; omega) fun b h1 h2 h3 => ?_
  ·rw [qB hlt (by omega), hI.k g.n (by omega) (fun h => by have := hMlt _ h; omega) (by omega) (by omega), mA]
  ·rw [qB hlt (by omega), hI.k b (by omega) h2 (by omega) h3, kA b h1]
end Go.Proofs.Ytakgjjbmniilhaa
