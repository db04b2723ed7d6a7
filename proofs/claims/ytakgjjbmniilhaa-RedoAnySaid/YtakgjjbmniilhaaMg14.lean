/- The document's log: a record. -/
import Derived.Test.YtakgjjbmniilhaaMg13
set_option linter.unusedVariables false
set_option maxRecDepth 100000
set_option linter.unusedVariables false
namespace Go.Proofs.Ytakgjjbmniilhaa
open Go Go.Vm
attribute [-go_sem] qQ
variable {h g : Heap} {R W M N : Set'} {rd rp fr ct : Nat} {D : DS} {G : LgS}
theorem numB_snoc (l : List V) (c : V) : jQ (l ++ [c]) = jQ l * 256 + bN c := by unfold jQ; rw [List.foldl_append]; rfl
theorem numB_bd {l : List V} (hb : Byt l) : jQ l < 256 ^ l.length := by
 have key : ∀ (l : List V) (a k : Nat), Byt l → a < 256 ^ k → l.foldl (fun n c => n * 256 + bN c) a < 256 ^ (k + l.length) := fun l => by
  induction l with
  | nil => intro a k _ h; exact h
  | cons c l ih =>
   intro a k hb h
   have hc := (bN_lt hb (v := c) (by simp)).1
   rw [List.foldl_cons, List.length_cons, show k + (l.length + 1) = (k + 1) + l.length by omega]
   refine ih _ _ (fun v hv => hb v (by simp [hv])) ?_
   rw [Nat.pow_succ]; omega
 have := key l 0 0 hb (by decide)
 rw [Nat.zero_add] at this
 exact this
set_option maxHeartbeats 8000000 in
theorem rep_loop {Q : Ex → Fr → Heap → Prop} {t : List It} {g : Heap} {S : Set'} {sv v0 v1 v2 v11 v12 v13 : V} {s : List V} {tr : Tr V} (hR : ∀ b, R b) (hsv : LR g S sv s) (hs : s.length = 128) (hby : Byt s)
  (t0 : tr.get 0 = some v0) (t1 : tr.get 1 = some v1) (t2 : tr.get 2 = some v2) (t11 : tr.get 11 = some v11) (t12 : tr.get 12 = some v12) (t13 : tr.get 13 = some v13) (t10 : tr.get 10 = some (.int .u64 0)) (t14 : tr.get 14 = some sv) (t15 : tr.get 15 = some (.int .i64 8))
  (hk : ∀ tr', tr'.get 0 = some v0 → tr'.get 1 = some v1 → tr'.get 2 = some v2 → tr'.get 11 = some v11 → tr'.get 12 = some v12 → tr'.get 13 = some v13 → tr'.get 14 = some sv → tr'.get 10 = some (.int .u64 ((jQ ((s.drop 8).take 8) : Nat) : Int)) → resume (Try.prog : MP) R W none Q t (.exit 2) ⟨⟨113, tr'⟩, []⟩ g) :
  kE (Try.prog : MP) R W none Q ir79_l0 t ⟨⟨113, tr⟩, []⟩ g := by
 refine kE.inv hm (fun k f g' => f.mks = [] ∧ f.tm.n = 113 ∧ g' = g ∧ f.tm.get 0 = some v0 ∧ f.tm.get 1 = some v1 ∧ f.tm.get 2 = some v2 ∧ f.tm.get 11 = some v11 ∧ f.tm.get 12 = some v12 ∧ f.tm.get 13 = some v13 ∧ f.tm.get 14 = some sv ∧ ∃ j : Nat, j + k = 8 ∧ f.tm.get 15 = some (.int .i64 ((8 + j : Nat) : Int)) ∧ f.tm.get 10 = some (.int .u64 ((jQ ((s.drop 8).take j) : Nat) : Int))) 8 ?_ ?_
 ·exact ⟨rfl, rfl, rfl, t0, t1, t2, t11, t12, t13, t14, 0, by omega, t15, t10⟩
 clear t0 t1 t2 t11 t12 t13 t10 t14 t15
 clear tr
 rintro k ⟨⟨n', tr⟩, mks⟩ g' ⟨hmk, hn', rfl, t0, t1, t2, t11, t12, t13, t14, j, hjk, t15, t10⟩
 simp only [Tm.kL] at hmk hn' t0 t1 t2 t10 t11 t12 t13 t14 t15
 subst hmk hn'
 by_cases hj : j < 8
 ·have hci : ((8 + j : Nat) : Int) < 16 := by omega
  obtain ⟨b, o, cap, ex, c, ce, e, hSb, h1, h2, h3⟩ := hsv.get (i := 8 + j) (by omega)
  rw [hs] at e h2
  subst e
  have hc0 : (0 : Int) ≤ ((8 + j : Nat) : Int) := by omega
  have hc1 : ((8 + j : Nat) : Int) < ((128 : Nat) : Int) := by omega
  have hc2 : ((8 + j : Nat) : Int) < 128 := by omega
  have hbs : o + (8 + j) < c.size := by omega
  have hel : s.getD (8 + j) qE = s[8 + j]'(by omega) := by rw [List.getD_eq_getElem?_getD, List.getElem?_eq_getElem (by omega)]; rfl
  obtain ⟨hb1, hb2⟩ := bN_lt hby (List.getElem_mem (show 8 + j < s.length by omega))
  obtain ⟨x, ex'⟩ : ∃ x, x = bN (s[8 + j]'(by omega)) := ⟨_, rfl⟩
  rw [← ex'] at hb1 hb2
  rw [hel, hb2] at h3
  have hrb := hR b
  obtain ⟨m, em⟩ : ∃ m, m = jQ ((s.drop 8).take j) := ⟨_, rfl⟩
  have hmb : m < 72057594037927936 := by
   have h := numB_bd ((hby.drop 8).take j)
   rw [← em] at h
   have h2 : ((s.drop 8).take j).length ≤ 7 := by rw [List.length_take]; omega
   have h3 : (256 : Nat) ^ ((s.drop 8).take j).length ≤ 256 ^ 7 := Nat.pow_le_pow_right (by omega) h2
   have e7 : (256 : Nat) ^ 7 = 72057594037927936 := by decide
   omega
  rw [← em] at t10
  have e1 : (m : Int) * 256 = ((m * 256 : Nat) : Int) := by omega
  have e2 : IntKind.u64.wrap ((m * 256 : Nat) : Int) = ((m * 256 : Nat) : Int) := wrap64 (by omega)
  have e3 : IntKind.u64.wrap (x : Int) = (x : Int) := wrap64 (by omega)
  have e4 : ((m * 256 : Nat) : Int) + (x : Int) = ((m * 256 + x : Nat) : Int) := by omega
  have e5 : IntKind.u64.wrap ((m * 256 + x : Nat) : Int) = ((m * 256 + x : Nat) : Int) := wrap64 (by omega)
  simp -implicitDefEqProofs (disch := omega) only [go_sem, seval, ↓reduceIte, reduceCtorEq, ir79_l0, t10, t14, t15, hci, hc0, hc2, h1, h3, hrb, cv5_42, c5_42, e1, e2, e3, e4, e5]
  refine ⟨k - 1, by omega, t0, t1, t2, t11, t12, t13, j + 1, by omega, by rw [show 8 + (j + 1) = 8 + j + 1 by omega]; simp, ?_⟩
  have e : (s.drop 8).take (j + 1) = (s.drop 8).take j ++ [s[8 + j]'(by omega)] := by
   rw [List.take_add_one, List.getElem?_drop, List.getElem?_eq_getElem (by omega)]; rfl
  rw [e, numB_snoc, ← em, ← ex']
 ·have hci : ¬ ((8 + j : Nat) : Int) < 16 := by omega
  obtain rfl : j = 8 := by omega
  simp -implicitDefEqProofs (disch := omega) only [go_sem, seval, ↓reduceIte, ir79_l0, t15]
  exact hk _ (by simp -implicitDefEqProofs (disch := omega) only [go_sem, seval, ↓reduceIte, reduceCtorEq, t0]) (by simp -implicitDefEqProofs (disch := omega) only [go_sem, seval, ↓reduceIte, t1]) (by simp -implicitDefEqProofs (disch := omega) only [go_sem, seval, ↓reduceIte, t2]) (by simp -implicitDefEqProofs (disch := omega) only [go_sem, seval, ↓reduceIte, t11]) (by simp -implicitDefEqProofs (disch := omega) only [go_sem, seval, ↓reduceIte, t12]) (by simp -implicitDefEqProofs (disch := omega) only [go_sem, seval, ↓reduceIte, t13]) (by simp -implicitDefEqProofs (disch := omega) only [go_sem, seval, ↓reduceIte, t14]) (by simp -implicitDefEqProofs (disch := omega) only [go_sem, seval, ↓reduceIte, t10])
theorem bat_get {S : Set'} {sv : V} {s : List V} (hsv : LR g S sv s) (hs : s.length = 128) (hby : Byt s) {j : Nat} (hj : j < 128) : ∃ b o cap ex c ce, sv = .slice (some (b, o)) 128 cap ex ∧ g.get b = some (.cells c ce) ∧ o + j < c.size ∧ c.get (o + j) = .int .u8 ((bAt s j : Nat) : Int) ∧ bAt s j < 256 := by
 obtain ⟨b, o, cap, ex, c, ce, e, hSb, h1, h2, h3⟩ := hsv.get (i := j) (by omega)
 rw [hs] at e h2
 have hel : s.getD j qE = s[j]'(by omega) := by rw [List.getD_eq_getElem?_getD, List.getElem?_eq_getElem (by omega)]; rfl
 obtain ⟨hb1, hb2⟩ := bN_lt hby (List.getElem_mem (show j < s.length by omega))
 have hba : bAt s j = bN (s[j]'(by omega)) := by unfold bAt; rw [hel]
 exact ⟨b, o, cap, ex, c, ce, e, h1, by omega, by rw [h3, hel, hba]; exact hb2, by rw [hba]; exact hb1⟩
set_option maxHeartbeats 8000000 in
theorem rhd_ok {Q : Ex → Fr → Heap → Prop} {t : List It} {g : Heap} {S : Set'} {sv v0 v1 v2 v12 : V} {s : List V} {ep of i : Nat} {tr : Tr V} (hR : ∀ b, R b) (hsv : LR g S sv s) (hs : s.length = 128) (hby : Byt s) (hz : i = 0 → ep = 0)
  (t0 : tr.get 0 = some v0) (t1 : tr.get 1 = some v1) (t2 : tr.get 2 = some v2) (t12 : tr.get 12 = some v12) (t13 : tr.get 13 = some (.int .i64 (i : Int))) (t10 : tr.get 10 = some (.int .u64 (ep : Int))) (t11 : tr.get 11 = some (.int .i64 (of : Int))) (t14 : tr.get 14 = some sv)
  (hk : ∀ tr', tr'.get 0 = some v0 → tr'.get 1 = some v1 → tr'.get 2 = some v2 → tr'.get 12 = some v12 → tr'.get 13 = some (.int .i64 (i : Int)) → tr'.get 14 = some sv → tr'.get 10 = some (.int .u64 ((if i = 0 then jQ ((s.drop 8).take 8) else ep : Nat) : Int)) → tr'.get 11 = some (.int .i64 ((if i = 0 then bAt s 17 else of : Nat) : Int)) → tr'.get 16 = some (.int .i64 ((bAt s 18 : Nat) : Int)) → GO (Try.prog : MP) R W none Q (.code xA :: t) ⟨⟨113, tr'⟩, []⟩ g) :
  GO (Try.prog : MP) R W none Q (.code ir79_l1_ep :: t) ⟨⟨113, tr⟩, []⟩ g := by
 obtain ⟨b, o, cap, ex, c, ce, e, h1, hb17, c17, l17⟩ := bat_get hsv hs hby (j := 17) (by omega)
 obtain ⟨b', o', cap', ex', c', ce', e', h1', hb18, c18, l18⟩ := bat_get hsv hs hby (j := 18) (by omega)
 rw [e] at e'
 cases e'
 rw [h1] at h1'
 cases h1'
 have hrb := hR b
 have w17 : IntKind.i64.wrap ((bAt s 17 : Nat) : Int) = ((bAt s 17 : Nat) : Int) := by rw [IntWalk.i64_in] <;> omega
 have w18 : IntKind.i64.wrap ((bAt s 18 : Nat) : Int) = ((bAt s 18 : Nat) : Int) := by rw [IntWalk.i64_in] <;> omega
 have j17 : (17 : Int) < ((128 : Nat) : Int) := by decide
 have j18 : (18 : Int) < ((128 : Nat) : Int) := by decide
 by_cases hi : i = 0
 ·have i0 : ((i : Int) == 0) = true := by simp; omega
  rw [if_pos hi, if_pos hi] at hk
  rw [hz hi] at t10
  simp -implicitDefEqProofs (disch := omega) only [go_sem, seval, ↓reduceIte, ir79_l1_ep, t13, i0]
  refine rep_loop (sv := sv) (v0 := v0) (v1 := v1) (v2 := v2) (v11 := .int .i64 (of : Int)) (v12 := v12) (v13 := .int .i64 (i : Int)) hR hsv hs hby (by simp -implicitDefEqProofs (disch := omega) only [go_sem, seval, ↓reduceIte, reduceCtorEq, t0]) (by simp -implicitDefEqProofs (disch := omega) only [go_sem, seval, ↓reduceIte, t1]) (by simp -implicitDefEqProofs (disch := omega) only [go_sem, seval, ↓reduceIte, t2]) (by simp -implicitDefEqProofs (disch := omega) only [go_sem, seval, ↓reduceIte, t11]) (by simp -implicitDefEqProofs (disch := omega) only [go_sem, seval, ↓reduceIte, t12]) (by simp -implicitDefEqProofs (disch := omega) only [go_sem, seval, ↓reduceIte, t13]) (by simp -implicitDefEqProofs (disch := omega) only [go_sem, seval, ↓reduceIte, t10]) (by simp -implicitDefEqProofs (disch := omega) only [go_sem, seval, ↓reduceIte, t14]) (by simp -implicitDefEqProofs (disch := omega) only [go_sem, seval, ↓reduceIte]) fun tr2 u0 u1 u2 u11 u12 u13 u14 u10 => ?_
  rw [e] at u14
  simp -implicitDefEqProofs (disch := omega) only [go_sem, seval, ↓reduceIte, ir79_l1_nn, u14, h1, c17, c18, hrb, cv5_3, c5_3, w17, w18]
  exact hk _ (by simp -implicitDefEqProofs (disch := omega) only [go_sem, seval, ↓reduceIte, reduceCtorEq, u0]) (by simp -implicitDefEqProofs (disch := omega) only [go_sem, seval, ↓reduceIte, u1]) (by simp -implicitDefEqProofs (disch := omega) only [go_sem, seval, ↓reduceIte, u2]) (by simp -implicitDefEqProofs (disch := omega) only [go_sem, seval, ↓reduceIte, u12]) (by simp -implicitDefEqProofs (disch := omega) only [go_sem, seval, ↓reduceIte, u13]) (by simp -implicitDefEqProofs (disch := omega) only [go_sem, seval, ↓reduceIte, u14, e]) (by simp -implicitDefEqProofs (disch := omega) only [go_sem, seval, ↓reduceIte, u10]) (by simp -implicitDefEqProofs (disch := omega) only [go_sem, seval, ↓reduceIte]) (by simp -implicitDefEqProofs (disch := omega) only [go_sem, seval, ↓reduceIte])
 ·have i0 : ((i : Int) == 0) = false := by simp; omega
  rw [if_neg hi, if_neg hi] at hk
  rw [e] at t14
  simp -implicitDefEqProofs (disch := omega) only [go_sem, seval, ↓reduceIte, ir79_l1_ep, ir79_l1_nn, t13, t14, i0, h1, c18, hrb, cv5_3, c5_3, w18]
  exact hk _ (by simp -implicitDefEqProofs (disch := omega) only [go_sem, seval, ↓reduceIte, reduceCtorEq, t0]) (by simp -implicitDefEqProofs (disch := omega) only [go_sem, seval, ↓reduceIte, t1]) (by simp -implicitDefEqProofs (disch := omega) only [go_sem, seval, ↓reduceIte, t2]) (by simp -implicitDefEqProofs (disch := omega) only [go_sem, seval, ↓reduceIte, t12]) (by simp -implicitDefEqProofs (disch := omega) only [go_sem, seval, ↓reduceIte, t13]) (by simp -implicitDefEqProofs (disch := omega) only [go_sem, seval, ↓reduceIte, t14, e]) (by simp -implicitDefEqProofs (disch := omega) only [go_sem, seval, ↓reduceIte, t10]) (by simp -implicitDefEqProofs (disch := omega) only [go_sem, seval, ↓reduceIte, t11]) (by simp -implicitDefEqProofs (disch := omega) only [go_sem, seval, ↓reduceIte])
def RecI (sec : Nat → List V) (lim a num i ep of : Nat) (out : List V) : Prop := (i = 0 ∧ ep = 0 ∧ of = 1 ∧ out = []) ∨ (1 ≤ i ∧ i ≤ of ∧ of ≤ 64 ∧ zO sec lim a num = (tailR sec lim num ep of (of - i) (a + i) i out).map fun o => (ep, o, of))
def epI (s : List V) (i ep : Nat) : Nat := if i = 0 then jQ ((s.drop 8).take 8) else ep
def ofI (s : List V) (i of : Nat) : Nat := if i = 0 then bAt s 17 else of
theorem rec_end {sec : Nat → List V} {lim a num i ep of : Nat} {out : List V} (h : RecI sec lim a num i ep of out) (hi : of ≤ i) : zO sec lim a num = some (ep, out, of) := by
 rcases h with ⟨rfl, _, rfl, _⟩ | ⟨h1, h2, h3, h4⟩
 ·omega
 ·rw [h4, show of - i = 0 by omega]; rfl
theorem rec_lim {sec : Nat → List V} {lim a num i ep of : Nat} {out : List V} (h : RecI sec lim a num i ep of out) (hi : i < of) (hl : lim ≤ a + i) : zO sec lim a num = none := by
 rcases h with ⟨rfl, _, rfl, _⟩ | ⟨h1, h2, h3, h4⟩
 ·unfold zO; rw [if_pos (by omega)]
 ·rw [h4, show of - i = (of - i - 1) + 1 by omega, tailR, if_pos hl]; rfl
theorem rec_bad {sec : Nat → List V} {lim a num i ep of : Nat} {out : List V} (h : RecI sec lim a num i ep of out) (hi : i < of) (hl : a + i < lim) (hc : ¬ chkOK (sec (a + i)) num (epI (sec (a + i)) i ep) i (ofI (sec (a + i)) i of)) : zO sec lim a num = none := by
 rcases h with ⟨rfl, _, rfl, _⟩ | ⟨h1, h2, h3, h4⟩
 ·unfold zO
  rw [if_neg (by omega)]
  rw [Nat.add_zero] at hc
  cases hr : jT (sec a) with
  | none => rfl
  | some r =>
   obtain ⟨r1, r2⟩ := rec_raw hr
   simp only
   rw [if_neg]
   rintro ⟨q1, q2⟩
   exact chk_bad hc hr ⟨q1, by rw [r1]; rfl, q2, by rw [r2]; rfl⟩
 ·have hi0 : i ≠ 0 := by omega
  rw [show epI (sec (a + i)) i ep = ep from if_neg hi0, show ofI (sec (a + i)) i of = of from if_neg hi0] at hc
  rw [h4, show of - i = (of - i - 1) + 1 by omega, tailR, if_neg (by omega)]
  cases hr : jT (sec (a + i)) with
  | none => rfl
  | some r =>
   simp only
   rw [if_neg (chk_bad hc hr)]; rfl
theorem rec_good {sec : Nat → List V} {lim a num i ep of : Nat} {out : List V} (h : RecI sec lim a num i ep of out) (hi : i < of) (hl : a + i < lim) (hs : (sec (a + i)).length = 128) (hb : Byt (sec (a + i))) (hn : num < 18446744073709551616) (he : ep < 18446744073709551616) (hc : chkOK (sec (a + i)) num (epI (sec (a + i)) i ep) i (ofI (sec (a + i)) i of)) : RecI sec lim a num (i + 1) (epI (sec (a + i)) i ep) (ofI (sec (a + i)) i of) (out ++ xB (sec (a + i))) := by
 have hof := hc.2.1
 rcases h with ⟨rfl, rfl, rfl, rfl⟩ | ⟨h1, h2, h3, h4⟩
 ·have he8 : jQ (((sec (a + 0)).drop 8).take 8) < 18446744073709551616 := by
   have := numB_bd ((hb.drop 8).take 8)
   have hl8 : (((sec (a + 0)).drop 8).take 8).length = 8 := by rw [List.length_take, List.length_drop]; omega
   rw [hl8] at this
   have e8 : (256 : Nat) ^ 8 = 18446744073709551616 := by decide
   omega
  have hr := chk_good hs hc (by have := hc.1; omega) hn he8
  refine .inr ⟨Nat.le_refl _, by have := hc.1; omega, hof, ?_⟩
  unfold zO
  rw [if_neg (by omega)]
  rw [Nat.add_zero] at hr ⊢
  rw [hr]
  simp only
  rw [if_pos ⟨trivial, trivial⟩]
  rfl
 ·have hi0 : i ≠ 0 := by omega
  have q1 : epI (sec (a + i)) i ep = ep := if_neg hi0
  have q2 : ofI (sec (a + i)) i of = of := if_neg hi0
  rw [q1, q2] at hc ⊢
  have hr := chk_good hs hc hi hn he
  refine .inr ⟨by omega, by omega, h3, ?_⟩
  rw [h4, show of - i = (of - (i + 1)) + 1 by omega, tailR, if_neg (by omega), hr]
  simp only
  rw [if_pos ⟨trivial, trivial, trivial, trivial⟩]
  rfl
def RecQ (h : Heap) (D : DS) (fr ct : Nat) (H : Hd) (a num : Nat) (r : V) (g : Heap) : Prop := h.n ≤ g.n ∧ (∀ k, k < h.n → g.get k = h.get k) ∧ match zO (zH D fr ct H.ha) ((ct - 2) / 2) a num with
 | none => r = .tuple [.int .u64 0, .slice none 0 0 true, .int .i64 0, .bool false]
 | some (e, b, n) => ∃ v, r = .tuple [.int .u64 (e : Int), v, .int .i64 (n : Int), .bool true] ∧ Own h.n g v b 5
set_option maxHeartbeats 8000000 in
theorem rrecord_ok {H : Hd} {a num : Nat} (hx : RkX h M rd D) (hl : RlC h rp rd fr ct H) (hc : 16 ≤ ct ∧ fr + ct ≤ D.n) (hha : H.ha < 2) (hnum : num < 18446744073709551616) (ha : a ≤ 1000000) (hR : ∀ b, R b) : SF Try.prog 79 [.ptr (some (rp, 0)), .int .i64 (a : Int), .int .u64 (num : Int)] h R W (RecQ h D fr ct H a num) := by
 have hR' : ∀ b, h.n ≤ b ∨ R b := fun b => .inr (hR b)
 have hp := hx.pos
 refine SF.go hm Try.func79 ir79_eq ?_
 simp -implicitDefEqProofs (disch := omega) only [go_sem, seval, ↓reduceIte, reduceCtorEq, ir79]
 obtain ⟨sec, esec⟩ : ∃ sec, sec = zH D fr ct H.ha := ⟨_, rfl⟩
 obtain ⟨lim, elim⟩ : ∃ lim, lim = (ct - 2) / 2 := ⟨_, rfl⟩
 have hsec : ∀ j, j < lim → (sec j).length = 128 ∧ Byt (sec j) := fun j hj => by
  rw [esec]; exact hx.sec (by have := half_lt hha (elim ▸ hj); omega)
 refine kE.inv hm (fun k f g => f.mks = [] ∧ f.tm.n = 113 ∧ f.tm.get 0 = some (.ptr (some (rp, 0))) ∧ f.tm.get 1 = some (.int .i64 (a : Int)) ∧ f.tm.get 2 = some (.int .u64 (num : Int)) ∧ ∃ (i ep of : Nat) (out : List V) (w : V), i + k = 64 ∧ f.tm.get 13 = some (.int .i64 (i : Int)) ∧ f.tm.get 10 = some (.int .u64 (ep : Int)) ∧ f.tm.get 11 = some (.int .i64 (of : Int)) ∧ f.tm.get 12 = some w ∧ Own h.n g w out 5 ∧ out.length ≤ 108 * i ∧ RecI sec lim a num i ep of out ∧ ep < 18446744073709551616 ∧ of ≤ 64 ∧ h.n ≤ g.n ∧ ∀ k, k < h.n → g.get k = h.get k) 64 ?_ ?_
 ·exact ⟨rfl, rfl, by simp -implicitDefEqProofs (disch := omega) only [go_sem, seval, ↓reduceIte], by simp -implicitDefEqProofs (disch := omega) only [go_sem, seval, ↓reduceIte, reduceCtorEq], by simp -implicitDefEqProofs (disch := omega) only [go_sem, seval, ↓reduceIte, reduceCtorEq], 0, 0, 1, [], _, by omega, by simp -implicitDefEqProofs (disch := omega) only [go_sem, seval, ↓reduceIte, reduceCtorEq], by simp -implicitDefEqProofs (disch := omega) only [go_sem, seval, ↓reduceIte, reduceCtorEq], by simp -implicitDefEqProofs (disch := omega) only [go_sem, seval, ↓reduceIte, reduceCtorEq], by simp -implicitDefEqProofs (disch := omega) only [go_sem, seval, ↓reduceIte, reduceCtorEq], Own.nil _ _ _, by simp, .inl ⟨rfl, rfl, rfl, rfl⟩, by omega, by omega, Nat.le_refl _, fun _ _ => rfl⟩
 rintro k ⟨⟨n', tr⟩, mks⟩ g ⟨hmk, hn', t0, t1, t2, i, ep, of, out, w, hik, t13, t10, t11, t12, ho, hol, hI, hep, hof, hng, kg⟩
 simp only [Tm.kL] at hmk hn' t0 t1 t2 t10 t11 t12 t13
 subst hmk hn'
 have hlg := hl.old kg
 have hxg : RkX g M rd D := hx.old hng kg
 by_cases hi : i < of
 rotate_left
 ·have hci : ¬ (i : Int) < (of : Int) := by omega
  simp -implicitDefEqProofs (disch := omega) only [go_sem, seval, ↓reduceIte, ir79_l1, t10, t11, t12, t13, hci]
  refine ⟨hng, kg, ?_⟩
  rw [← esec, ← elim, rec_end hI (by omega)]
  exact ⟨w, rfl, ho⟩
 have hci : (i : Int) < (of : Int) := by omega
 rw [ir79_l1_c_eq]
 have e1 : (a : Int) + (i : Int) = ((a + i : Nat) : Int) := by omega
 simp -implicitDefEqProofs (disch := omega) only [go_sem, seval, ↓reduceIte, reduceCtorEq, ir79_l1_c, t0, t1, t11, t13, hci, e1]
 refine qK.of (rhalf_ok hlg ⟨by omega, by omega⟩ hR') ?_
 rintro r g ⟨rfl, rfl⟩
 rw [← elim]
 by_cases hli : lim ≤ a + i
 ·have i1 : (lim : Int) ≤ ((a + i : Nat) : Int) := by omega
  simp -implicitDefEqProofs (disch := omega) only [go_sem, seval, ↓reduceIte, i1]
  refine ⟨hng, kg, ?_⟩
  rw [← esec, ← elim, rec_lim hI hi hli]
 have i1 : ¬ (lim : Int) ≤ ((a + i : Nat) : Int) := by omega
 have hlg0 := hlg
 obtain ⟨cl, l1, l2, l3, c0, c1, c2, c3⟩ := hlg
 simp -implicitDefEqProofs (disch := omega) only [go_sem, seval, ↓reduceIte, reduceCtorEq, t0, i1, l1, l2, c0]
 refine qN.of (SF.foot (rbegin_ok (R := qR) (W := noW) hlg0 ⟨by omega, by omega⟩ (by omega) hha (fun _ => trivial)) (fun _ h => h) (fun _ h => h)) ?_
 rintro r g ⟨rfl, rfl⟩
 rw [← elim]
 have hml : H.ha * lim + (a + i) < 2 * lim := by rw [elim]; exact half_lt hha (by omega)
 have e2 : ((fr + 2 + H.ha * lim : Nat) : Int) + (a : Int) = ((fr + 2 + H.ha * lim + a : Nat) : Int) := by omega
 have e3 : ((fr + 2 + H.ha * lim + a : Nat) : Int) + (i : Int) = ((fr + 2 + H.ha * lim + a + i : Nat) : Int) := by omega
 have hlb : fr + 2 + H.ha * lim + a + i < D.n := by omega
 simp -implicitDefEqProofs (disch := omega) only [go_sem, seval, ↓reduceIte, t1, t13, e2, e3]
 refine qN.of (SF.foot (seen_rk (R := qR) (W := noW) hxg (fun _ => trivial) (s := fr + 2 + H.ha * lim + a + i) hlb) (fun _ h => h) (fun _ h => h)) ?_
 rintro sv g ⟨hsv, rfl⟩
 have hss : D.seen (fr + 2 + H.ha * lim + a + i) = sec (a + i) := by rw [esec, elim]; show _ = D.seen _; congr 1; omega
 rw [hss] at hsv
 obtain ⟨sl, sb⟩ := hsec (a + i) (by omega)
 have ra := hR' rp
 simp -implicitDefEqProofs (disch := omega) only [go_sem, seval, ↓reduceIte]
 have hz : i = 0 → ep = 0 := fun h0 => by rcases hI with ⟨_, h1, _⟩ | ⟨h1, _⟩ <;> omega
 have he8 : jQ (((sec (a + i)).drop 8).take 8) < 18446744073709551616 := by
  have := numB_bd ((sb.drop 8).take 8)
  have hl8 : (((sec (a + i)).drop 8).take 8).length = 8 := by rw [List.length_take, List.length_drop]; omega
  rw [hl8] at this
  have e8 : (256 : Nat) ^ 8 = 18446744073709551616 := by decide
  omega
 have hepI : epI (sec (a + i)) i ep < 18446744073709551616 := by unfold epI; split; exact he8; exact hep
 obtain ⟨_, _, _, _, _, _, _, _, _, _, l17⟩ := bat_get hsv.1 sl sb (j := 17) (by omega)
 have hofI : ofI (sec (a + i)) i of < 256 := by unfold ofI; split; exact l17; omega
 refine ⟨by (and_intros; all_goals (intro b hb hc; simp only [noW, qR, List.not_mem_nil, and_false, false_or, or_false] at hb hc <;> omega)), by (and_intros; all_goals (intros; first | exact hR' _ | exact (by assumption : noW _).elim | exact (by assumption : False).elim | exact .inr (hW _ (by assumption)) | omega)), ?_⟩
 refine rhd_ok (i := i) (ep := ep) (of := of) (s := sec (a + i)) (sv := sv) (v0 := .ptr (some (rp, 0))) (v1 := .int .i64 (a : Int)) (v2 := .int .u64 (num : Int)) (v12 := w) hR' hsv.1 sl sb hz (by simp -implicitDefEqProofs (disch := omega) only [go_sem, seval, ↓reduceIte, reduceCtorEq, t0]) (by simp -implicitDefEqProofs (disch := omega) only [go_sem, seval, ↓reduceIte, t1]) (by simp -implicitDefEqProofs (disch := omega) only [go_sem, seval, ↓reduceIte, t2]) (by simp -implicitDefEqProofs (disch := omega) only [go_sem, seval, ↓reduceIte, t12]) (by simp -implicitDefEqProofs (disch := omega) only [go_sem, seval, ↓reduceIte, t13]) (by simp -implicitDefEqProofs (disch := omega) only [go_sem, seval, ↓reduceIte, t10]) (by simp -implicitDefEqProofs (disch := omega) only [go_sem, seval, ↓reduceIte, t11]) (by simp -implicitDefEqProofs (disch := omega) only [go_sem, seval, ↓reduceIte]) fun tr2 u0 u1 u2 u12 u13 u14 u10 u11 u16 => ?_
 refine rck_ok (s := sec (a + i)) (sv := sv) (num := num) (ep := epI (sec (a + i)) i ep) (i := i) (of := ofI (sec (a + i)) i of) (S := fun b => M b ∧ b < g.n) hR' (hsv.mono fun b h1 h2 => ⟨h2, h1⟩) sl sb (fun b hb => hb.2) hnum hepI (by omega) hofI u2 u10 u11 u13 u14 u16 (fun hbad tr3 g3 w6 w7 w8 w9 n3 k3 => ?_) fun hgood tr3 g3 hsame n3 k3 => ?_
 ·simp -implicitDefEqProofs (disch := omega) only [go_sem, seval, w6, w7, w8, w9]
  refine ⟨by omega, fun k hk => by rw [k3 k (by omega), kg k hk], ?_⟩
  rw [← esec, ← elim, rec_bad hI hi (by omega) hbad]
 ·have hn108 := hgood.2.2.1
  have x0 := (hsame 0 (by simp)).trans u0
  have x1 := (hsame 1 (by simp)).trans u1
  have x2 := (hsame 2 (by simp)).trans u2
  have x10 := (hsame 10 (by simp)).trans u10
  have x11 := (hsame 11 (by simp)).trans u11
  have x12 := (hsame 12 (by simp)).trans u12
  have x13 := (hsame 13 (by simp)).trans u13
  have x14 := (hsame 14 (by simp)).trans u14
  have x16 := (hsame 16 (by simp)).trans u16
  have hsv3 : LR g3 M sv (sec (a + i)) := hsv.1.old k3
  obtain ⟨sl', hs1, hsd⟩ := sl_19r hsv3 hsv.2 sl hn108
  have hdd : ((sec (a + i)).drop 19).take (bAt (sec (a + i)) 18) = xB (sec (a + i)) := rfl
  rw [hdd] at hsd
  have hdl : (xB (sec (a + i))).length ≤ 108 := by rw [datB_len sl hn108]; exact hn108
  have hdb : Byt (xB (sec (a + i))) := (sb.drop 19).take _
  obtain ⟨v4, g4, r4, w4, hap4, o4, n4, k4, hw4⟩ := appL (ho.old k3) (by omega) hsd hdb (by omega)
  have q3 : allB (fun b => h.n ≤ b ∨ R b) r4 := qO fun b _ => hR' b
  have q4 : allB (fun b => h.n ≤ b ∨ W b) w4 := qO fun b hb => .inl (hw4 b hb)
  have hwo := ho.lr.one
  have hdo := hsd.one
  simp -implicitDefEqProofs (disch := omega) only [go_sem, seval, ↓reduceIte, reduceCtorEq, ir79_l1_ap, x0, x1, x2, x10, x11, x12, x13, x14, x16, hs1, qU jO, hap4, q3, q4]
  refine ⟨k - 1, by omega, i + 1, epI (sec (a + i)) i ep, ofI (sec (a + i)) i of, out ++ xB (sec (a + i)), v4, by omega, by simp, rfl, rfl, rfl, o4, by rw [List.length_append]; omega, rec_good hI hi (by omega) sl sb hnum hep hgood, hepI, hgood.2.1, by omega, fun k hk => by rw [k4 k hk, k3 k (by omega), kg k hk]⟩
end Go.Proofs.Ytakgjjbmniilhaa
set_option maxRecDepth 100000
set_option linter.unusedVariables false
namespace Go.Proofs.Ytakgjjbmniilhaa
open Go Go.Vm
attribute [-go_sem] qQ
variable {h g : Heap} {R W M N : Set'} {rd rp fr ct : Nat} {D : DS} {G : LgS}
set_option maxHeartbeats 8000000 in
theorem rl_loop {Q : Ex → Fr → Heap → Prop} {t : List It} {H : Hd} {tr : Tr V} {c : Blk} (hR : ∀ b, R b) (hW : ∀ k, h.n ≤ k ∨ k = rp → W k)
  (hx : RkX h M rd D) (hM : ¬ M rp) (l1 : h.get rp = some (.cells c 109)) (l2 : c.size = 13) (l3 : c.ro = false) (k0 : c.get 0 = .ptr (some (rd, 0))) (k1 : c.get 1 = .int .i64 (fr : Int)) (k2 : c.get 2 = .int .i64 (ct : Int)) (k3 : c.gets 3 5 = H.v)
  (hc : 16 ≤ ct ∧ fr + ct ≤ D.n) (hha : H.ha < 2) (hsz : H.sz ≤ (ct - 2) / 2 * 120)
  (g0 : Heap) (hg0 : g0 = h.set rp (.cells (c.set 8 (.slice none 0 0 true)) 109))
  (t0 : tr.get 0 = some (.ptr (some (rp, 0)))) (t2 : tr.get 2 = some (.int .i64 0))
  (hk : ∀ tr g c' v, tr.get 0 = some (.ptr (some (rp, 0))) → g.get rp = some (.cells c' 109) → c'.size = 13 → c'.ro = false → (∀ j, j ≠ 8 → c'.get j = c.get j) → c'.get 8 = v → Own h.n g v (jS (zH D fr ct H.ha) (qL H.sz)) 5 → h.n ≤ g.n → (∀ k, k < h.n → k ≠ rp → g.get k = h.get k) → resume (Try.prog : MP) R W none Q t (.exit 0) ⟨⟨137, tr⟩, []⟩ g) :
  kE (Try.prog : MP) R W none Q ir50_l0 t ⟨⟨137, tr⟩, []⟩ g0 := by
 have hp := hx.pos
 have hll := Heap.lt_of_get l1
 have hK : qL H.sz ≤ (ct - 2) / 2 := by unfold qL; omega
 have ra := hR rp
 have wl := hW rp (.inr rfl)
 refine kE.inv hm (fun k f g => f.mks = [] ∧ f.tm.n = 137 ∧ f.tm.get 0 = some (.ptr (some (rp, 0))) ∧ ∃ (i : Nat) (v : V) (c' : Blk), i + k = qL H.sz ∧ f.tm.get 2 = some (.int .i64 (i : Int)) ∧ g.get rp = some (.cells c' 109) ∧ c'.size = 13 ∧ c'.ro = false ∧ (∀ j, j ≠ 8 → c'.get j = c.get j) ∧ c'.get 8 = v ∧ Own h.n g v (jS (zH D fr ct H.ha) i) 5 ∧ h.n ≤ g.n ∧ ∀ k, k < h.n → k ≠ rp → g.get k = h.get k) (qL H.sz) ?_ ?_
 ·refine ⟨rfl, rfl, t0, 0, _, c.set 8 (.slice none 0 0 true), by omega, t2, by rw [hg0]; exact qF hll rfl _, by simp only [Blk.size_set]; exact l2, by simp only [Blk.qY]; exact l3, fun j hj => by rw [Blk.get_set, if_neg hj], rfl, ?_, by rw [hg0, Heap.n_set]; exact Nat.le_refl _, fun k hk1 hk2 => by rw [hg0, qB hll hk2]⟩
  rw [Blk.get_set, if_pos rfl]; exact Own.nil _ _ _
 clear t0 t2
 clear tr
 rintro k ⟨⟨n', tr⟩, mks⟩ g ⟨hmk, hn', t0, i, v, c', hik, t2, L1, L2, L3, kc, k8, ho, hng, kg⟩
 simp only [Tm.kL] at hmk hn' t0 t2
 subst hmk hn'
 have hsec : ∀ j, j < (ct - 2) / 2 → (zH D fr ct H.ha j).length = 128 ∧ Byt (zH D fr ct H.ha j) := fun j hj => hx.sec (by have := half_lt hha hj; omega)
 have kM : ∀ k, M k → g.get k = h.get k := fun k hk => kg k (hx.2 k hk) fun e => hM (e ▸ hk)
 have hxg : RkX g M rd D := hx.same hng kM
 have c3 : c'.gets 3 5 = H.v := by rw [gets3 (c := c) fun j h1 h2 => kc j (by omega)]; exact k3
 have hlg : RlC g rp rd fr ct H := ⟨c', L1, L2, L3, by rw [kc 0 (by omega)]; exact k0, by rw [kc 1 (by omega)]; exact k1, by rw [kc 2 (by omega)]; exact k2, c3⟩
 have c0 : c'.get 0 = .ptr (some (rd, 0)) := by rw [kc 0 (by omega)]; exact k0
 have c6 : c'.get 6 = .int .u64 (H.sz : Int) := jG c3 (j := 3) (by omega)
 have hcv : IntKind.i64.wrap (H.sz : Int) = (H.sz : Int) := by rw [IntWalk.i64_in] <;> omega
 have hR' : ∀ b, h.n ≤ b ∨ R b := fun b => .inr (hR b)
 simp -implicitDefEqProofs (disch := omega) only [go_sem, seval, ↓reduceIte, reduceCtorEq, ir50_l0, t0, t2, L1, L2, c6, ra, cv42_3, c42_3, hcv]
 refine qK.of (SF.any (M := (Try.prog : MP)) (rsectors_ok (n := H.sz) (by omega))) ?_
 rintro r g ⟨rfl, rfl⟩
 by_cases hi : i < qL H.sz
 rotate_left
 ·have hci : ¬ (i : Int) < (qL H.sz : Int) := by omega
  obtain rfl : i = qL H.sz := by omega
  simp -implicitDefEqProofs (disch := omega) only [go_sem, seval, ↓reduceIte, hci]
  exact hk _ _ c' v (by simp -implicitDefEqProofs (disch := omega) only [go_sem, seval, ↓reduceIte, reduceCtorEq, t0]) L1 L2 L3 kc k8 ho hng kg
 have hci : (i : Int) < (qL H.sz : Int) := by omega
 have hml : H.ha * ((ct - 2) / 2) + i < 2 * ((ct - 2) / 2) := half_lt hha (by omega)
 have e1 : ((fr + 2 + H.ha * ((ct - 2) / 2) : Nat) : Int) + (i : Int) = ((fr + 2 + H.ha * ((ct - 2) / 2) + i : Nat) : Int) := by omega
 have hlb : fr + 2 + H.ha * ((ct - 2) / 2) + i < D.n := by omega
 simp -implicitDefEqProofs (disch := omega) only [go_sem, seval, ↓reduceIte, reduceCtorEq, t0, hci, L1, L2, k8, c0]
 refine qN.of (SF.foot (rbegin_ok (R := qR) (W := noW) hlg ⟨by omega, by omega⟩ (by omega) hha (fun _ => trivial)) (fun _ h => h) (fun _ h => h)) ?_
 rintro r g ⟨rfl, rfl⟩
 simp -implicitDefEqProofs (disch := omega) only [go_sem, seval, ↓reduceIte, t2, e1]
 refine qN.of (SF.foot (seen_rk (R := qR) (W := noW) hxg (fun _ => trivial) (s := fr + 2 + H.ha * ((ct - 2) / 2) + i) hlb) (fun _ h => h) (fun _ h => h)) ?_
 rintro sv g ⟨hsv, rfl⟩
 have hss : D.seen (fr + 2 + H.ha * ((ct - 2) / 2) + i) = zH D fr ct H.ha i := rfl
 rw [hss] at hsv
 obtain ⟨sl, sb⟩ := hsec i (by omega)
 obtain ⟨v', hs1, hs2⟩ := rest_lr hsv.1 hsv.2 (k := 8) (by omega)
 obtain ⟨hd, _⟩ := hs2 (by omega)
 have hs1 : kC Try.prog 22 sv (some 8) none none = some v' := hs1
 have hl1 : (jS (zH D fr ct H.ha) i).length = 120 * i := snapC_len fun j hj => (hsec j (by omega)).1
 have hll : qL H.sz ≤ 1000000 := by unfold qL; omega
 obtain ⟨v4, g4, r4, w4, hap4, o4, n4, k4, hw4⟩ := appL ho hng hd (sb.drop 8) (by rw [List.length_drop, hl1]; omega)
 have hrl : rp < h.n := Heap.lt_of_get l1
 have L4 := (k4 rp hrl).trans L1
 have hr4 := Heap.lt_of_get L4
 have hR'' : ∀ b, g.n ≤ b ∨ R b := fun b => .inr (hR b)
 have q3 : allB R r4 := qO fun b _ => hR b
 have q4 : allB W w4 := qO fun b hb => hW b (.inl (hw4 b hb))
 have hwo := ho.lr.one
 have hdo := hd.one
 have h4o := o4.lr.one
 have h4c := o4.lr.cells
 simp -implicitDefEqProofs (disch := omega) only [go_sem, seval, ↓reduceIte, reduceCtorEq, qE, t0, t2, hs1, ↓h4o, ↓h4c, qU jO, hap4, L4, L2, L3, wl]
 refine ⟨by (and_intros; all_goals (intro b hb hc; simp only [noW, qR, List.not_mem_nil, and_false, false_or, or_false] at hb hc <;> omega)), ⟨fun _ => ra, fun _ => ra, fun b _ _ => hR b, fun b _ h => h.elim, fun b _ _ => hR b, fun b _ h => h.elim, fun b _ _ => hR b, fun b _ h => hW b (.inl (hw4 b h))⟩, k - 1, by omega, i + 1, v4, c'.set 8 v4, by omega, by simp, rfl, by simp only [Blk.size_set]; exact L2, by simp only [Blk.qY]; exact L3, fun j hj => by rw [Blk.get_set, if_neg hj]; exact kc j hj, by rw [Blk.get_set, if_pos rfl], by rw [snapC_succ]; exact o4.keep fun b c'' hb => by rw [qB hr4 fun e => by rw [e, L4] at hb; cases hb]; exact hb, by omega, fun k hk1 hk2 => by rw [qB hr4 hk2, k4 k hk1, kg k hk1 hk2]⟩
end Go.Proofs.Ytakgjjbmniilhaa
set_option maxRecDepth 100000
set_option linter.unusedVariables false
namespace Go.Proofs.Ytakgjjbmniilhaa
open Go Go.Vm
attribute [-go_sem] qQ
variable {h g : Heap} {R W M N : Set'} {rd rp fr ct : Nat} {D : DS} {G : LgS}
structure RgR (g : Heap) (rp rd fr ct : Nat) (N : Set') (G : LgS) (c : Blk) (v8 v9 : V) (vs : List V) : Prop where
 l1 : g.get rp = some (.cells c 109)
 l2 : c.size = 13
 l3 : c.ro = false
 k0 : c.get 0 = .ptr (some (rd, 0))
 k1 : c.get 1 = .int .i64 (fr : Int)
 k2 : c.get 2 = .int .i64 (ct : Int)
 k3 : c.gets 3 5 = G.H.v
 k8 : c.get 8 = v8
 k9 : c.get 9 = v9
 k10 : c.get 10 = .int .u64 (G.nx : Int)
 k11 : c.get 11 = .int .i64 (G.at' : Int)
 k12 : c.get 12 = .int .u64 (G.sy : Int)
 sd : LR g (N5 g N) v8 G.sn
 vd : Own 0 g v9 vs 22
 vn : v9 = .slice none 0 0 true ∨ N (sblk v9)
 vl : vs.length = G.rs.length
 ve : ∀ i l, G.rs[i]? = some l → LR g (N5 g N) (vs.getD i qE) l
theorem RgR.upd {g' : Heap} {c c2 : Blk} {v8 v9 : V} {vs : List V} {G2 : LgS} (hl : RgR g rp rd fr ct N G c v8 v9 vs) (hN : ∀ k c e, N k → k ≠ rp → g.get k = some (.cells c e) → g'.get k = some (.cells c e)) (l1 : g'.get rp = some (.cells c2 109)) (l2 : c2.size = 13) (l3 : c2.ro = false) (hj : ∀ j, j < 3 ∨ j = 8 ∨ j = 9 → c2.get j = c.get j) (k3 : c2.gets 3 5 = G2.H.v) (k10 : c2.get 10 = .int .u64 (G2.nx : Int)) (k11 : c2.get 11 = .int .i64 (G2.at' : Int)) (k12 : c2.get 12 = .int .u64 (G2.sy : Int)) (es : G2.sn = G.sn) (er : G2.rs = G.rs) : RgR g' rp rd fr ct N G2 c2 v8 v9 vs := by
 have hz : ∀ b, N5 g N b → g'.get b = g.get b := fun b hb => by
  obtain ⟨h1, c', h2⟩ := hb
  rw [h2]
  exact hN b c' 5 h1 (fun e => by rw [e, hl.l1] at h2; cases h2) h2
 have hz2 : ∀ b, N5 g N b → N5 g' N b := fun b hb => ⟨hb.1, by obtain ⟨c', h2⟩ := hb.2; exact ⟨c', (hz b hb).trans h2⟩⟩
 refine ⟨l1, l2, l3, (hj 0 (by omega)).trans hl.k0, (hj 1 (by omega)).trans hl.k1, (hj 2 (by omega)).trans hl.k2, k3, (hj 8 (by omega)).trans hl.k8, (hj 9 (by omega)).trans hl.k9, k10, k11, k12, ?_, ?_, hl.vn, by rw [er]; exact hl.vl, fun i l hi => ?_⟩
 ·rw [es]; exact (hl.sd.same fun b hb _ => hz b hb).mono fun b _ hb => hz2 b hb
 ·have hN2 : ∀ k c, g.get k = some (.cells c 22) → N k → g'.get k = some (.cells c 22) := fun k c h1 h2 => hN k c 22 h2 (fun e => by rw [e, hl.l1] at h1; cases h1) h1
  rcases hl.vn with e | hv
  ·have h1 := hl.vd
   subst e
   rcases h1 with ⟨rfl, _⟩ | ⟨b, x, c, h0, e, _⟩
   ·exact Own.nil _ _ _
   ·cases e
  ·rcases hl.vd with ⟨rfl, rfl | ⟨b, c, rfl, h1, hb, hr⟩⟩ | ⟨b, x, c, h0, rfl, h1, hb, hs⟩
   ·exact Own.nil _ _ _
   ·exact .inl ⟨rfl, .inr ⟨b, c, rfl, h1, hN2 b c hb hv, hr⟩⟩
   ·exact .inr ⟨b, x, c, h0, rfl, h1, hN2 b c hb hv, hs⟩
 ·rw [er] at hi
  exact ((hl.ve i l hi).same fun b hb _ => hz b hb).mono fun b _ hb => hz2 b hb
theorem RgR.mono {N' : Set'} {c : Blk} {v8 v9 : V} {vs : List V} (hl : RgR g rp rd fr ct N G c v8 v9 vs) (hN : ∀ k, k < g.n → N k → N' k) : RgR g rp rd fr ct N' G c v8 v9 vs :=
 ⟨hl.l1, hl.l2, hl.l3, hl.k0, hl.k1, hl.k2, hl.k3, hl.k8, hl.k9, hl.k10, hl.k11, hl.k12, hl.sd.mono fun b hb h1 => ⟨hN b hb h1.1, h1.2⟩, hl.vd, hl.vn.imp id fun h1 => hN _ (hl.vd.sblk_lt (by have := Heap.lt_of_get hl.l1; omega)) h1, hl.vl, fun i l hi => (hl.ve i l hi).mono fun b hb h1 => ⟨hN b hb h1.1, h1.2⟩⟩
theorem rg_rec {c : Blk} {v8 v9 x : V} {vs l : List V} (hl : RgR g rp rd fr ct N G c v8 v9 vs) (hx : LR g (N5 g N) x l) (hv : vs.length ≤ 1000000) :
  ∃ v' g3 rr ww, appE 22 1 24 v9 (.slice (some (g.n, 0)) 1 1 true) (g.push (.cells (Blk.of [x]) 22)) = some ⟨v', g3, rr, ww⟩ ∧ g.n + 1 ≤ g3.n ∧ v'.one = true ∧ v'.qZ = [v'] ∧ (∀ b, b < g.n → b ∉ ww → g3.get b = g.get b) ∧ (∀ b ∈ ww, N b ∧ ∃ c, g.get b = some (.cells c 22)) ∧ g3.get rp = some (.cells c 109) ∧
  ∀ g' c2, (∀ k, k ≠ rp → g'.get k = g3.get k) → g'.n = g3.n → g'.get rp = some (.cells c2 109) → c2.size = 13 → c2.ro = false → (∀ j, j ≠ 9 → c2.get j = c.get j) → c2.get 9 = v' → RgR g' rp rd fr ct (fun k => N k ∨ (g.n ≤ k ∧ k < g3.n)) { G with rs := G.rs ++ [l] } c2 v8 v' (vs ++ [x]) := by
 have l1 := hl.l1
 have hlp := Heap.lt_of_get l1
 have hxo := hx.one
 obtain ⟨v', g3, rr, ww, hap, ho3, n3, kk3, hw3, hs3⟩ := app_rec (N := N) hl.vd hl.vn hxo hv (by omega)
 have nlw : ∀ k, k < g.n → (∀ c', g.get k ≠ some (.cells c' 22)) → g3.get k = g.get k := fun k h1 h2 => kk3 k h1 fun h4 => by
  obtain ⟨_, c', h5⟩ := hw3 k h4; exact h2 c' h5
 have L3 := (nlw rp hlp (fun c' e => by rw [l1] at e; cases e)).trans l1
 refine ⟨v', g3, rr, ww, hap, n3, ho3.lr.one, ho3.lr.cells, kk3, hw3, L3, fun g' c2 k4 n4 L4 d2 d3 dj d9 => ?_⟩
 have hz : ∀ b, (∃ c, g.get b = some (.cells c 5)) → g'.get b = g.get b := fun b hb => by
  obtain ⟨c', h2⟩ := hb
  have h3 : b ≠ rp := fun e => by rw [e, l1] at h2; cases h2
  rw [k4 b h3, nlw b (Heap.lt_of_get h2) (fun c'' e => by rw [h2] at e; cases e)]
 have hm : ∀ b, b < g'.n → N5 g N b → N5 g' (fun k => N k ∨ (g.n ≤ k ∧ k < g3.n)) b := fun b _ hb => ⟨.inl hb.1, by obtain ⟨c', h2⟩ := hb.2; exact ⟨c', (hz b ⟨c', h2⟩).trans h2⟩⟩
 refine ⟨L4, d2, d3, (dj 0 (by omega)).trans hl.k0, (dj 1 (by omega)).trans hl.k1, (dj 2 (by omega)).trans hl.k2, ?_, (dj 8 (by omega)).trans hl.k8, d9, (dj 10 (by omega)).trans hl.k10, (dj 11 (by omega)).trans hl.k11, (dj 12 (by omega)).trans hl.k12, (hl.sd.same fun b hb _ => hz b hb.2).mono hm, ho3.keep fun b c' hb => by rw [k4 b fun e => by rw [e, L3] at hb; cases hb]; exact hb, ?_, by simp [hl.vl], fun i l' hi => ?_⟩
 ·rw [gets3 (c := c) fun j _ _ => dj j (by omega)]; exact hl.k3
 ·right
  have h5 := ho3.sblk_lt (by omega)
  rcases hs3 with h1 | h1
  ·exact .inl h1
  ·exact .inr ⟨h1, h5⟩
 ·by_cases hi2 : i < G.rs.length
  ·rw [List.getElem?_append_left hi2] at hi
   have e : (vs ++ [x]).getD i qE = vs.getD i qE := by
    rw [List.getD_eq_getElem?_getD, List.getD_eq_getElem?_getD, List.getElem?_append_left (by rw [hl.vl]; exact hi2)]
   rw [e]
   exact ((hl.ve i l' hi).same fun b hb _ => hz b hb.2).mono hm
  ·rw [List.getElem?_append_right (by omega)] at hi
   have hi3 : i = G.rs.length := by
    have := (List.getElem?_eq_some_iff.1 hi).1
    simp at this; omega
   subst hi3
   rw [Nat.sub_self] at hi
   cases hi
   have e : (vs ++ [x]).getD G.rs.length qE = x := by
    rw [List.getD_eq_getElem?_getD, List.getElem?_append_right (by rw [hl.vl]; omega), hl.vl, Nat.sub_self]; rfl
   rw [e]
   exact (hx.same fun b hb _ => hz b hb.2).mono hm
end Go.Proofs.Ytakgjjbmniilhaa
set_option maxRecDepth 100000
set_option linter.unusedVariables false
namespace Go.Proofs.Ytakgjjbmniilhaa
open Go Go.Vm
attribute [-go_sem] qQ
variable {h g : Heap} {R W M N : Set'} {rd rp fr ct : Nat} {D : DS} {G : LgS}
theorem RgR.rlc {c : Blk} {v8 v9 : V} {vs : List V} (hl : RgR g rp rd fr ct N G c v8 v9 vs) : RlC g rp rd fr ct G.H := ⟨c, hl.l1, hl.l2, hl.l3, hl.k0, hl.k1, hl.k2, hl.k3⟩
def FinG (F : List (List V) × Nat × Nat) (H : Hd) (sy : Nat) (sn : List V) : LgS := ⟨H, F.2.2, F.2.1, sy, sn, F.1⟩
set_option maxHeartbeats 8000000 in
theorem rr_loop {g : Heap} {H : Hd} {Q : Ex → Fr → Heap → Prop} {t : List It} {tr : Tr V} {c : Blk} {v8 v9 : V} {vs : List V} {we sy a : Nat} {sn : List V} (hR : ∀ b, R b) (hW : ∀ k, h.n ≤ k ∨ k = rp → W k) (hrp : rp < h.n)
  (hx : RkX h M rd D) (hM : ¬ M rp) (hc : 16 ≤ ct ∧ fr + ct ≤ D.n) (hha : H.ha < 2) (hfi : H.fi ≤ 4611686018427387904) (hwe : we < 18446744073709551616) (hep : H.ep < 18446744073709551616)
  (hl : RgR g rp rd fr ct (fun k => h.n ≤ k) ⟨H, H.fi, a, sy, sn, []⟩ c v8 v9 vs) (ha : a ≤ 1000000) (hn : h.n ≤ g.n) (kg : ∀ k, k < h.n → k ≠ rp → g.get k = h.get k)
  (t0 : tr.get 0 = some (.ptr (some (rp, 0)))) (t3 : tr.get 3 = some (.int .u64 (we : Int)))
  (hk : ∀ tr g c' v9' vs', RgR g rp rd fr ct (fun k => h.n ≤ k) (FinG (jU (zH D fr ct H.ha) H.ep ((ct - 2) / 2 - a) a (kN H.fi we [] a)).fin H sy sn) c' v8 v9' vs' → h.n ≤ g.n → (∀ k, k < h.n → k ≠ rp → g.get k = h.get k) → Q .ret ⟨⟨137, tr⟩, []⟩ g) :
  kE (Try.prog : MP) R W none Q ir50_l1 t ⟨⟨137, tr⟩, []⟩ g := by
 have hp := hx.pos
 have ra := hR rp
 have wl := hW rp (.inr rfl)
 obtain ⟨F, eF⟩ : ∃ F, F = (jU (zH D fr ct H.ha) H.ep ((ct - 2) / 2 - a) a (kN H.fi we [] a)).fin := ⟨_, rfl⟩
 rw [← eF] at hk
 refine kE.inv hm (fun k f g => f.mks = [] ∧ f.tm.n = 137 ∧ f.tm.get 0 = some (.ptr (some (rp, 0))) ∧ ∃ (we a : Nat) (rs : List (List V)) (c : Blk) (v9 : V) (vs : List V), k = (ct - 2) / 2 - a ∧ f.tm.get 3 = some (.int .u64 (we : Int)) ∧ we < 18446744073709551616 ∧ RgR g rp rd fr ct (fun k => h.n ≤ k) ⟨H, H.fi + rs.length, a, sy, sn, rs⟩ c v8 v9 vs ∧ rs.length ≤ a ∧ a ≤ 1000000 ∧ h.n ≤ g.n ∧ (∀ k, k < h.n → k ≠ rp → g.get k = h.get k) ∧ F = (jU (zH D fr ct H.ha) H.ep ((ct - 2) / 2 - a) a (kN (H.fi + rs.length) we rs a)).fin) ((ct - 2) / 2 - a) ?_ ?_
 ·exact ⟨rfl, rfl, t0, we, a, [], c, v9, vs, rfl, t3, hwe, hl, Nat.zero_le _, ha, hn, kg, eF⟩
 clear t0 t3 hl kg hn eF ha hwe
 clear tr g we a c v9 vs
 rintro k ⟨⟨n', tr⟩, mks⟩ g ⟨hmk, hn', t0, we, a, rs, c, v9, vs, hk', t3, hwe, hl, hra, ha, hng, kg, eF⟩
 simp only [Tm.kL] at hmk hn' t0 t3
 subst hmk hn'
 have kM : ∀ k, M k → g.get k = h.get k := fun k hk => kg k (hx.2 k hk) fun e => hM (e ▸ hk)
 have hxg : RkX g M rd D := hx.same hng kM
 have l1 := hl.l1
 have l2 := hl.l2
 have l3 := hl.l3
 have k9 := hl.k9
 have k10 := hl.k10
 have k11 := hl.k11
 have hlp := Heap.lt_of_get l1
 have c3 : c.get 3 = .int .u64 (H.ep : Int) := jG hl.k3 (j := 0) (by omega)
 simp -implicitDefEqProofs (disch := first | omega | (simp -implicitDefEqProofs only [szs, ne_eq] <;> omega) | fail) only [go_sem, seval, ↓reduceIte, reduceCtorEq, ir50_l1, t0, l1, l2, k10, k11]
 refine qN.of (SF.foot (rrecord_ok (R := qR) (W := noW) hxg hl.rlc hc hha (num := H.fi + rs.length) (a := a) (by omega) ha (fun _ => trivial)).kept (fun _ h => h) (fun _ h => h)) ?_
 rintro r g2 ⟨⟨n2, kk2, hq⟩, vf⟩
 rw [run_fresh] at eF
 have L2 := (kk2 rp hlp).trans l1
 have hl2 : RgR g2 rp rd fr ct (fun k => h.n ≤ k) ⟨H, H.fi + rs.length, a, sy, sn, rs⟩ c v8 v9 vs := hl.upd (fun k c' e _ _ hk => (kk2 k (Heap.lt_of_get hk)).trans hk) L2 l2 l3 (fun _ _ => rfl) hl.k3 hl.k10 hl.k11 hl.k12 rfl rfl
 cases hr : zO (zH D fr ct H.ha) ((ct - 2) / 2) a (H.fi + rs.length) with
 | none =>
  rw [hr] at hq eF
  simp only at hq eF
  subst hq
  simp -implicitDefEqProofs (disch := first | omega | (simp -implicitDefEqProofs only [szs, ne_eq] <;> omega) | fail) only [go_sem, seval, ↓reduceIte, qE]
  refine ⟨⟨fun _ => ra, fun _ => ra, fun b _ _ => hR b, fun b _ h => h.elim⟩, hk _ _ c v9 vs ?_ (by omega) fun k hk1 hk2 => (kk2 k (by omega)).trans (kg k hk1 hk2)⟩
  rw [eF]
  exact hl2
 | some o =>
  obtain ⟨e, b, n⟩ := o
  rw [hr] at hq eF
  simp only at hq eF
  obtain ⟨v, rfl, ho⟩ := hq
  obtain ⟨hn1, hn2, hn3⟩ := record_of hr
  have hfr : (rp < g.n → R rp) ∧ (rp < g.n → R rp) ∧ (∀ (b : Nat), b < g.n → qR b → R b) ∧ ∀ (b : Nat), b < g.n → noW b → W b := ⟨fun _ => ra, fun _ => ra, fun b _ _ => hR b, fun b _ h => h.elim⟩
  by_cases h1 : e < we
  ·have i1 : (e : Int) < (we : Int) := by omega
   simp -implicitDefEqProofs (disch := first | omega | (simp -implicitDefEqProofs only [szs, ne_eq] <;> omega) | fail) only [go_sem, seval, ↓reduceIte, qE, t3, i1]
   refine ⟨hfr, hk _ _ c v9 vs ?_ (by omega) fun k hk1 hk2 => (kk2 k (by omega)).trans (kg k hk1 hk2)⟩
   rw [eF, if_pos (.inl h1)]
   exact hl2
  have i1 : ¬ (e : Int) < (we : Int) := by omega
  by_cases h2 : H.ep < e
  ·have i2 : (H.ep : Int) < (e : Int) := by omega
   simp -implicitDefEqProofs (disch := first | omega | (simp -implicitDefEqProofs only [szs, ne_eq] <;> omega) | fail) only [go_sem, seval, ↓reduceIte, reduceCtorEq, t0, t3, i1, i2, L2, l2, c3, ra]
   refine ⟨hfr.2.2, hk _ _ c v9 vs ?_ (by omega) fun k hk1 hk2 => (kk2 k (by omega)).trans (kg k hk1 hk2)⟩
   rw [eF, if_pos (.inr h2)]
   exact hl2
  have i2 : ¬ (H.ep : Int) < (e : Int) := by omega
  rw [if_neg (by omega)] at eF
  have hx2 : LR g2 (N5 g2 fun k => h.n ≤ k) v b := (Own.lrf ho).mono fun k _ hk => ⟨by have := hk.1; omega, hk.2⟩
  obtain ⟨v', g3, rr, ww, hap, n3, h3o, h3c, kk3, hw3, L3, hrg⟩ := rg_rec hl2 hx2 (by have := hl.vl; simp only at this; omega)
  have hvo := hx2.one
  have hvc := hx2.cells
  have hr3 := Heap.lt_of_get L3
  have q3 : allB R rr := qO fun b _ => hR b
  have q4 : allB W ww := qO fun b hb => hW b (.inl (hw3 b hb).1)
  have h9o := hl2.vd.lr.one
  have e1 : (a : Int) + (n : Int) = ((a + n : Nat) : Int) := by omega
  have e2 : IntKind.u64.wrap (((H.fi + rs.length : Nat) : Int) + 1) = ((H.fi + (rs ++ [b]).length : Nat) : Int) := by
   rw [List.length_append, show ((H.fi + rs.length : Nat) : Int) + 1 = ((H.fi + (rs.length + [b].length) : Nat) : Int) by simp only [List.length_cons, List.length_nil]; omega]; exact wrap64 (by simp only [List.length_cons, List.length_nil]; omega)
  simp -implicitDefEqProofs (disch := first | omega | (simp -implicitDefEqProofs only [szs, ne_eq] <;> omega) | fail) only [go_sem, seval, ↓reduceIte, reduceCtorEq, qE, t0, t3, i1, i2, L2, l2, l3, c3, ra, wl, k9, k10, k11, ↓hvc, qU ap_45, hap, q3, q4, ↓h3o, ↓h3c, L3, e1, e2]
  have ga : ∀ (g' : Heap) (x : Blk), g'.n = g3.n → ∀ k, k ≠ rp → (g'.set rp (.cells x 109)).get k = g'.get k := fun g' x h1 k h2 => qB (by omega) h2 _
  have kz : ∀ k, k ≠ rp → (((g3.set rp (O.cells (c.set 9 v') 109)).set rp (O.cells ((c.set 9 v').set 11 (V.int IntKind.i64 ↑(a + n))) 109)).set rp (O.cells (((c.set 9 v').set 11 (V.int IntKind.i64 ↑(a + n))).set 10 (V.int IntKind.u64 ↑(H.fi + (rs ++ [b]).length))) 109)).get k = g3.get k := fun k hk => by
   rw [ga _ _ (by simp only [Heap.n_set]) k hk, ga _ _ (by simp only [Heap.n_set]) k hk, ga _ _ rfl k hk]
  have hA := hrg (g3.set rp (.cells (c.set 9 v') 109)) (c.set 9 v') (ga g3 _ rfl) (by simp only [Heap.n_set]) (qF hr3 rfl _) (by simp only [Blk.size_set]; exact l2) (by simp only [Blk.qY]; exact l3) (fun j hj => by rw [Blk.get_set, if_neg hj]) (by rw [Blk.get_set, if_pos rfl])
  refine ⟨hfr.2.2, (ct - 2) / 2 - (a + n), by omega, e, a + n, rs ++ [b], ((c.set 9 v').set 11 (V.int IntKind.i64 ↑(a + n))).set 10 (V.int IntKind.u64 ↑(H.fi + (rs ++ [b]).length)), v', vs ++ [v], rfl, rfl, by omega, ?_, by simp only [List.length_append, List.length_cons, List.length_nil]; omega, by omega, by omega, fun k hk1 hk2 => ?_, ?_⟩
  ·refine RgR.mono (hA.upd (fun k c' e' _ h2 hk => ?_) (qF (by simp only [Heap.n_set]; exact hr3) rfl _) (by simp only [Blk.size_set]; exact l2) (by simp only [Blk.qY]; exact l3) (fun j hj => ?_) ?_ (by rw [Blk.get_set, if_pos rfl]) (by rw [Blk.get_set, if_neg (by omega), Blk.get_set, if_pos rfl]) ?_ rfl rfl) fun k _ hk => hk.elim id fun h => by omega
   ·rw [kz k h2]; rw [ga g3 _ rfl k h2] at hk; exact hk
   ·rw [Blk.get_set, if_neg (by omega), Blk.get_set, if_neg (by omega)]
   ·rw [zI (by omega), zI (by omega)]; exact hA.k3
   ·rw [Blk.get_set, if_neg (by omega), Blk.get_set, if_neg (by omega)]; exact hA.k12
  ·rw [kz k hk2, kk3 k (by omega) fun h => (by have := (hw3 k h).1; omega), kk2 k (by omega), kg k hk1 hk2]
  ·rw [eF, List.length_append]; rfl
end Go.Proofs.Ytakgjjbmniilhaa
