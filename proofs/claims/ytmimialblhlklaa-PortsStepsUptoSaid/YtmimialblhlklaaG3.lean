/- begin: both sides' New. -/
import Derived.Test.YtmimialblhlklaaG2
set_option linter.unusedVariables false
set_option maxRecDepth 100000
namespace Go.Proofs.Ytmimialblhlklaa
open Go Go.Vm
variable {h : Heap} {R W I : Set'}
theorem gets_take (c : Blk) (n m : Nat) (h : m ≤ n) : c.gets 0 m = (c.gets 0 n).take m := by
 apply List.ext_getElem?
 intro j
 rw [List.getElem?_take]
 by_cases hj : j < m
 ·rw [if_pos hj, Blk.gets_get _ _ _ _ hj, Blk.gets_get _ _ _ _ (by omega)]
 ·rw [if_neg hj, List.getElem?_eq_none (by rw [Blk.length_gets]; omega)]
theorem PortC.same {g g' : Heap} {I : Set'} {c : Blk} {o : Nat} {y : Option Pt} (hp : PortC g I c o y) (hk : ∀ k, I k → g'.get k = g.get k) : PortC g' I c o y := by
 cases y with
 | none => exact hp
 | some x =>
  obtain ⟨h1, h2, h3, h6⟩ := hp
  exact ⟨h1, LRs.same h2 fun k h _ => hk k h, h3.same hk, h6⟩
theorem RPorts.same {g g' : Heap} {I : Set'} {rd : Nat} {bl : Nat → Nat} {qs : List Nat} {S : AT} (hr : RPorts g I rd bl qs S) (hk : ∀ k, (I k ∨ ∃ a, a < qs.length ∧ k = bl a) → g'.get k = g.get k) : RPorts g' I rd bl qs S := by
 obtain ⟨⟨c, c1, c2, c3⟩, ir, b, dom, inj, imm, hq⟩ := hr
 have hI : ∀ k, I k → g'.get k = g.get k := fun k h => hk k (.inl h)
 refine ⟨⟨c, (hI rd ir).trans c1, c2, c3.same fun k h _ => hI k h⟩, ir, fun a q e => ?_, dom, inj, fun k h => ?_, hq⟩
 ·obtain ⟨c, q1, q2, q3, q4⟩ := b a q e
  exact ⟨c, (hk _ (.inr ⟨a, (List.getElem?_eq_some_iff.1 e).1, rfl⟩)).trans q1, q2, q3, fun n hn => (q4 n hn).same hI⟩
 ·obtain ⟨c, e, h1, h2⟩ := imm k h
  exact ⟨c, e, (hI k h).trans h1, h2⟩
theorem slice_own {n0 : Nat} {h : Heap} {v : V} {l z : List V} {t e : TypeId} (hu : Try.prog.underlying t = some (.slice e)) (hz : szV Try.prog e = some 1) (ho : Own n0 h v (l ++ z) e) (hne : z ≠ []) : ∃ v', sliceV Try.prog t v none (some (l.length : Int)) none = some v' ∧ LR h (fun k => k = sblk v ∧ n0 ≤ k ∧ ∃ c, h.get k = some (.cells c e)) v' l := by
 rcases ho with ⟨h0, _⟩ | ⟨b, x, c, h0, rfl, hb0, hb, hs, _, hg⟩
 ·exact absurd (by simpa using h0 : l = [] ∧ z = []).2 hne
 ·have hll : (l ++ z).length = l.length + z.length := by simp
  have hbv : boundsV (l ++ z).length (l ++ z).length none (some (l.length : Int)) none = some (0, l.length, (l ++ z).length) := by
   have : (l.length : Int).toNat = l.length := by omega
   simp only [boundsV, this]
   rw [if_pos (by omega)]
  have hp := List.length_pos_iff.2 h0
  have hb0' : Nat.blt 0 (l ++ z).length = true := w_blt_t (by omega)
  have hq0 : Nat.beq (l ++ z).length 0 = false := w_beq_f (by omega)
  refine ⟨.slice (some (b, 0)) l.length (l ++ z).length x, ?_, .inr ⟨b, 0, _, x, c, e, rfl, ⟨rfl, hb0, c, hb⟩, hb, by omega, ?_⟩⟩
  ·simp only [sliceV, hu, hz, hbv]
   cases x with
   | true => simp only [hq0]; rfl
   | false => simp
  ·rw [gets_take c (l ++ z).length l.length (by omega), hg]; simp
theorem allOne_int : ∀ l : List Int, allOne (l.map (V.int .i64)) = true
 | [] => rfl
 | x :: l => by simp only [List.map_cons, allOne, V.one, allOne_int l]
theorem own_at {n0 : Nat} {h : Heap} {v : V} {l : List V} {e : TypeId} (ho : Own n0 h v l e) (hl : l ≠ []) : ∃ b x c, v = .slice (some (b, 0)) l.length l.length x ∧ n0 ≤ b ∧ h.get b = some (.cells c e) ∧ c.size = l.length ∧ c.ro = false ∧ ∀ i, i < l.length → c.get i = l.getD i undefV := by
 rcases ho with ⟨h0, _⟩ | ⟨b, x, c, h0, rfl, h1, hb, hs, hr, hg⟩
 ·exact absurd h0 hl
 ·refine ⟨b, x, c, rfl, h1, hb, hs, hr, fun i hi => ?_⟩
  have := Blk.gets_get c l.length 0 i hi
  rw [hg, Nat.zero_add] at this
  rw [List.getD_eq_getElem?_getD, this]; rfl
set_option maxHeartbeats 4000000 in
theorem begin_loop {Q : Ex → Fr → Heap → Prop} {t : List It} {h4 : Heap} {S0 : Set'} {v pv ev rv fv : V} {zs : List Int} {bo : Nat} {xo : Bool} {co : Blk} {tr : Tr V} (hv : LR h4 S0 v (zs.map (.int .i64))) (hR : ∀ b, R b) (hW : W bo) (hz : zs.length ≤ 1000) (hS : ∀ b, S0 b → b ≠ bo)
  (hco : h4.get bo = some (.cells co 3)) (hcs : co.size = zs.length + 1) (hcr : co.ro = false) (hcg : ∀ j, j < zs.length → co.get j = (zs.map (V.int .i64)).getD j undefV)
  (t0 : tr.get 0 = some v) (t5 : tr.get 5 = some (.slice (some (bo, 0)) (zs.length + 1) (zs.length + 1) xo)) (t6 : tr.get 6 = some pv) (t7 : tr.get 7 = some ev) (t8 : tr.get 8 = some rv) (t9 : tr.get 9 = some fv) (t10 : tr.get 10 = some (.int .i64 0))
  (hk : ∀ tr g, tr.get 6 = some pv → tr.get 7 = some ev → tr.get 8 = some rv → tr.get 9 = some fv → g.n = h4.n → (∀ b, b ≠ bo → g.get b = h4.get b) → resume ⟨Try.prog, true⟩ R W none Q t (.exit 0) ⟨⟨59, tr⟩, []⟩ g) : GLoop ⟨Try.prog, true⟩ R W none Q ir9_l0 t ⟨⟨59, tr⟩, []⟩ h4 := by
 have hlen := hv.lenV Try.underlying30
 rw [List.length_map] at hlen
 refine GLoop.inv hm (fun k f g => f.mks = [] ∧ f.tm.n = 59 ∧ f.tm.get 0 = some v ∧ f.tm.get 5 = some (.slice (some (bo, 0)) (zs.length + 1) (zs.length + 1) xo) ∧ f.tm.get 6 = some pv ∧ f.tm.get 7 = some ev ∧ f.tm.get 8 = some rv ∧ f.tm.get 9 = some fv ∧ g.n = h4.n ∧ (∀ b, b ≠ bo → g.get b = h4.get b) ∧ ∃ (i : Nat) (c : Blk), i + k = zs.length ∧ f.tm.get 10 = some (.int .i64 (i : Int)) ∧ g.get bo = some (.cells c 3) ∧ c.size = zs.length + 1 ∧ c.ro = false ∧ ∀ j, i ≤ j → j < zs.length → c.get j = (zs.map (V.int .i64)).getD j undefV) zs.length ?_ ?_
 ·exact ⟨rfl, rfl, t0, t5, t6, t7, t8, t9, rfl, fun _ _ => rfl, 0, co, by omega, t10, hco, hcs, hcr, fun j _ hj => hcg j hj⟩
 clear t0 t5 t6 t7 t8 t9 t10
 rintro k ⟨⟨n', tr⟩, mks⟩ g ⟨hmk, hn', t0, t5, t6, t7, t8, t9, hgn, hgk, i, c, hik, t10, hc, hc1, hc2, hc3⟩
 simp only [Tm.get_mk] at hmk hn' t0 t5 t6 t7 t8 t9 t10
 subst hmk hn'
 have hRbo := hR bo
 by_cases hin : i < zs.length
 ·obtain ⟨b, o, cap, ex, cz, ce, rfl, hSb, hb, hs, hg⟩ := (hv.same fun b h1 _ => hgk b (hS b h1)).get (i := i) (by simpa using hin)
  have hRb := hR b
  have hbl := Heap.lt_of_get hc
  rw [List.length_map] at hs t0 hlen
  have gz : (zs.map (V.int .i64)).getD i undefV = .int .i64 zs[i] := by simp [hin]
  rw [gz] at hg
  have hci := hc3 i (Nat.le_refl _) hin
  rw [gz] at hci
  have hil : (i : Int) < (zs.length : Int) := by omega
  have hi0 : (0 : Int) ≤ (i : Int) := by omega
  have hi1 : (i : Int) < ((zs.length + 1 : Nat) : Int) := by omega
  have hne : (zs[i] != zs[i]) = false := by simp
  simp -implicitDefEqProofs (disch := (first | omega | fail)) only [go_sem, seval, ↓reduceIte, reduceCtorEq, ir9_l0, undefV, t0, t5, t6, t7, t8, t9, t10, ↓hlen, hil, hi0, hi1, hRb, hRbo, hb, hg, hc, hc1, hc2, hci, hne]
  refine ⟨hW, k - 1, by omega, by rw [List.length_map], hgn, fun b hb => ?_, i + 1, _, by omega, by simp, rfl, by rw [Blk.size_set]; exact hc1, by rw [Blk.ro_set]; exact hc2, fun j h1 h2 => ?_⟩
  ·rw [w_set_ne hbl hb]; exact hgk b hb
  ·rw [Blk.get_set, if_neg (by omega)]; exact hc3 j (by omega) h2
 ·obtain rfl : i = zs.length := by omega
  have hir : ¬ (zs.length : Int) < (zs.length : Int) := by omega
  simp -implicitDefEqProofs (disch := (first | omega | fail)) only [go_sem, seval, ↓reduceIte, reduceCtorEq, ir9_l0, undefV, t0, t10, ↓hlen, hir]
  exact hk _ _ (by simp -implicitDefEqProofs (disch := (first | omega | fail)) only [go_sem, seval, ↓reduceIte, t6]) (by simp -implicitDefEqProofs (disch := (first | omega | fail)) only [go_sem, seval, ↓reduceIte, t7]) (by simp -implicitDefEqProofs (disch := (first | omega | fail)) only [go_sem, seval, ↓reduceIte, t8]) (by simp -implicitDefEqProofs (disch := (first | omega | fail)) only [go_sem, seval, ↓reduceIte, t9]) hgn hgk
set_option maxHeartbeats 4000000 in
theorem begin_px {S0 : Set'} {v : V} {zs : List Int} (hv : LR h S0 v (zs.map (.int .i64))) (hz : zs.length ≤ 1000) (hR : ∀ b, R b) : SF ⟨Try.prog, true⟩ 9 [v] h R W fun r g => h.n ≤ g.n ∧ (∀ k, k < h.n → g.get k = h.get k) ∧ ((newOK zs = false ∧ r = .tuple [.ptr none, .ptr none, .bool true]) ∨ (newOK zs = true ∧ ∃ pp M rd bl I, r = .tuple [.ptr (some (pp, 0)), .ptr (some (rd, 0)), .bool true] ∧ PX g M pp (zs.map Int.toNat) (fun _ _ => none) ∧ (∀ k, M k → h.n ≤ k) ∧ RPorts g I rd bl (zs.map Int.toNat) (fun _ _ => none) ∧ (∀ k, I k → h.n ≤ k ∧ ¬ M k) ∧ ∀ a, a < zs.length → h.n ≤ bl a ∧ ¬ M (bl a))) := by
 have hlen := hv.lenV Try.underlying30
 rw [List.length_map] at hlen
 refine SF.go hm Try.func9 ir9_eq ?_
 obtain ⟨hx, rs, hf, hrs⟩ := first_lr hv
 obtain ⟨v1, h1, r1, w1, hap1, ho1, hn1, hk1, hw1, _⟩ := app_own (n0 := h.n) (h := h) (v := .slice none 0 0 true) (l := []) (e := 3) (bytes := 8) (.inl ⟨rfl, .inl rfl⟩) (Nat.le_refl _) hx hf (allOne_int zs) (by simp only [List.length_nil, List.length_map]; omega) (by simp only [List.length_nil, List.length_map]; omega)
 rw [List.nil_append] at ho1
 obtain ⟨v2, h2, r2, w2, hap2, ho2, hn2, hk2, hw2, _⟩ := app_own (n0 := h.n) (h := h1.push (.cells (Blk.of [.int .i64 77]) 3)) (v := v1) (x := .slice (some (h1.n, 0)) 1 1 true) (l := zs.map (.int .i64)) (news := [.int .i64 77]) (rs := [h1.n]) (e := 3) (bytes := 8) (ho1.old fun b hb => w_push_ne (by omega) _) (by simp only [Heap.n_push]; omega) rfl (first_one (w_push_eq rfl _)) rfl (by simp only [List.length_cons, List.length_nil, List.length_map]; omega) (by simp only [List.length_cons, List.length_nil, List.length_map]; omega)
 simp only [Heap.n_push] at hn2
 have hrR1 : allB (fun b => h.n ≤ b ∨ R b) r1 := allB_of fun b hb => .inr (hR b)
 have hwW1 : allB (fun b => h.n ≤ b ∨ W b) w1 := allB_of fun b hb => .inl (hw1 b hb)
 have hrR2 : allB (fun b => h.n ≤ b ∨ R b) r2 := allB_of fun b hb => .inr (hR b)
 have hwW2 : allB (fun b => h.n ≤ b ∨ W b) w2 := allB_of fun b hb => .inl (hw2 b hb)
 have kh2 : ∀ b, b < h.n → h2.get b = h.get b := fun b hb => by rw [hk2 b hb, w_push_ne (by omega), hk1 b hb]
 obtain ⟨v3, hsl, hv3⟩ := slice_own (t := 30) Try.underlying30 sz_3 ho2 (by simp)
 rw [List.length_map] at hsl
 simp -implicitDefEqProofs (disch := (first | omega | fail)) only [go_sem, seval, ↓reduceIte, reduceCtorEq, ir9, ↓hlen, appendV_of ap_30, hap1, hap2, hrR1, hwW1, hrR2, hwW2, hsl]
 refine GCall.of ((new_ok (R := fun _ => True) (W := fun _ => False) hv3 (fun _ => trivial)).any.foot (fun b _ => .inr (hR b)) (fun _ h => h.elim)) ?_
 rintro r h3 hnew
 obtain ⟨pv, e, rfl, hN, hn3, hk3⟩ : ∃ pv e, r = .tuple [pv, .int .i64 e] ∧ ((newOK zs = false ∧ pv = .ptr none ∧ e = 2) ∨ (newOK zs = true ∧ ∃ pp mp, pv = .ptr (some (pp, 0)) ∧ e = 0 ∧ PortsAt h3 (fun b => h2.n ≤ b ∧ ∃ c e, h3.get b = some (.cells c e) ∧ e ≠ 82 ∧ e ≠ 109) pp mp (zs.map Int.toNat) T0 ∧ h2.n ≤ mp)) ∧ h2.n ≤ h3.n ∧ ∀ b, b < h2.n → h3.get b = h2.get b := by
  rcases hnew with ⟨q1, rfl, rfl⟩ | ⟨q1, pp, mp, rfl, q2, q3, q4, q5⟩
  ·exact ⟨_, _, rfl, .inl ⟨q1, rfl, rfl⟩, Nat.le_refl _, fun _ _ => rfl⟩
  ·exact ⟨_, _, rfl, .inr ⟨q1, pp, mp, rfl, rfl, q2, q3⟩, q4, q5⟩
 clear hnew
 have kh3 : ∀ b, b < h.n → h3.get b = h.get b := fun b hb => by rw [hk3 b (by omega), kh2 b hb]
 simp -implicitDefEqProofs (disch := (first | omega | fail)) only [go_sem, seval, ↓reduceIte, reduceCtorEq]
 refine GCall.of (((rnew_ok (R := fun _ => True) (W := fun _ => False) (hv.old kh3) (fun _ => trivial)).any).foot (fun b _ => .inr (hR b)) (fun _ h => h.elim)) ?_
 rintro r h4 ⟨hn4, hk4, hrn⟩
 obtain ⟨rv, rfl, hN4⟩ : ∃ rv, r = .tuple [rv, .int .i64 e] ∧ ((newOK zs = false ∧ rv = .ptr none) ∨ (newOK zs = true ∧ ∃ rd bl, rv = .ptr (some (rd, 0)) ∧ RPorts h4 (fun k => h3.n ≤ k ∧ ∃ c e, h4.get k = some (.cells c e) ∧ e ≠ 109 ∧ e ≠ 82) rd bl (zs.map Int.toNat) (fun _ _ => none) ∧ ∀ a, a < zs.length → h3.n ≤ bl a)) := by
  rcases hN with ⟨q1, rfl, rfl⟩ | ⟨q1, pp, mp, rfl, rfl, q2, q3⟩
  ·rcases hrn with ⟨_, rfl⟩ | ⟨q4, _⟩
   ·exact ⟨_, rfl, .inl ⟨q1, rfl⟩⟩
   ·rw [q1] at q4; cases q4
  ·rcases hrn with ⟨q4, _⟩ | ⟨_, rd, bl, rfl, q5, q6⟩
   ·rw [q1] at q4; cases q4
   ·exact ⟨_, rfl, .inr ⟨q1, rd, bl, rfl, q5, q6⟩⟩
 clear hrn
 have kh4 : ∀ b, b < h.n → h4.get b = h.get b := fun b hb => by rw [hk4 b (by omega), kh3 b hb]
 obtain ⟨bo, xo, co, rfl, hbo, hco, hcs, hcr, hcg⟩ := own_at ho2 (by simp)
 have hbo2 := Heap.lt_of_get hco
 have hco4 : h4.get bo = some (.cells co 3) := by rw [hk4 bo (by omega), hk3 bo hbo2]; exact hco
 have hll : (zs.map (V.int .i64) ++ [V.int .i64 77]).length = zs.length + 1 := by simp
 rw [hll] at hcs hcg
 simp -implicitDefEqProofs (disch := (first | omega | fail)) only [go_sem, seval, ↓reduceIte, reduceCtorEq]
 refine begin_loop (h4 := h4) (zs := zs) (bo := bo) (co := co) (xo := xo) (v := v) (pv := pv) (ev := .int .i64 e) (rv := rv) (fv := .int .i64 e) ((hv.mono (R' := fun b => b < h.n) fun b hb _ => hb).old kh4) (fun b => .inr (hR b)) (.inl hbo) hz (fun b hb => by have : b < h.n := hb; omega) hco4 hcs hcr (fun j hj => ?_) (by simp -implicitDefEqProofs (disch := (first | omega | fail)) only [go_sem, seval, ↓reduceIte]) (by simp -implicitDefEqProofs (disch := (first | omega | fail)) only [go_sem, seval, ↓reduceIte, reduceCtorEq, hll]) (by simp -implicitDefEqProofs (disch := (first | omega | fail)) only [go_sem, seval, ↓reduceIte, reduceCtorEq]) (by simp -implicitDefEqProofs (disch := (first | omega | fail)) only [go_sem, seval, ↓reduceIte, reduceCtorEq]) (by simp -implicitDefEqProofs (disch := (first | omega | fail)) only [go_sem, seval, ↓reduceIte, reduceCtorEq]) (by simp -implicitDefEqProofs (disch := (first | omega | fail)) only [go_sem, seval, ↓reduceIte, reduceCtorEq]) (by simp -implicitDefEqProofs (disch := (first | omega | fail)) only [go_sem, seval, ↓reduceIte, reduceCtorEq]) ?_
 ·rw [hcg j (by omega), List.getD_eq_getElem?_getD, List.getElem?_append_left (by simpa using hj), ← List.getD_eq_getElem?_getD]
 intro tr g t6 t7 t8 t9 hgn hgk
 have kg : ∀ b, b < h.n → g.get b = h.get b := fun b hb => by rw [hgk b (by omega), kh4 b hb]
 rcases hN with ⟨q1, rfl, rfl⟩ | ⟨q1, pp, mp, rfl, rfl, q2, q3⟩
 ·rcases hN4 with ⟨_, rfl⟩ | ⟨q4, _⟩
  ·simp -implicitDefEqProofs (disch := (first | omega | fail)) only [go_sem, seval, ↓reduceIte, t6, t7, t8]
   refine GCall.of (num_ok _).any ?_
   rintro r g' ⟨rfl, rfl⟩
   simp -implicitDefEqProofs (disch := (first | omega | fail)) only [go_sem, seval, ↓reduceIte, t9]
   exact ⟨by omega, kg, .inl q1⟩
  ·rw [q1] at q4; cases q4
 ·rcases hN4 with ⟨q4, _⟩ | ⟨_, rd, bl, rfl, q5, q6⟩
  ·rw [q1] at q4; cases q4
  ·simp -implicitDefEqProofs (disch := (first | omega | fail)) only [go_sem, seval, ↓reduceIte, t6, t7, t8]
   refine GCall.of (num_ok _).any ?_
   rintro r g' ⟨rfl, rfl⟩
   simp -implicitDefEqProofs (disch := (first | omega | fail)) only [go_sem, seval, ↓reduceIte, t9]
   have hIlt : ∀ k, (h2.n ≤ k ∧ ∃ c e, h3.get k = some (.cells c e) ∧ e ≠ 82 ∧ e ≠ 109) → k < h3.n := fun k hk => by
    obtain ⟨_, c, e, h1, _⟩ := hk
    exact Heap.lt_of_get h1
   have hml := q2.lt.2
   have hMlt : ∀ k, (MutB mp T0 k ∨ (h2.n ≤ k ∧ ∃ c e, h3.get k = some (.cells c e) ∧ e ≠ 82 ∧ e ≠ 109)) → h2.n ≤ k ∧ k < h3.n := fun k hk => by
    rcases hk with (hk | ⟨a, n, x, e⟩) | hk
    ·subst hk; exact ⟨q3, hml⟩
    ·cases e
    ·exact ⟨hk.1, hIlt k hk⟩
   have hP : PortsAt g' (fun b => h2.n ≤ b ∧ ∃ c e, h3.get b = some (.cells c e) ∧ e ≠ 82 ∧ e ≠ 109) pp mp (zs.map Int.toNat) T0 := q2.same fun k hk hlt => by
    have := hMlt k hk.symm
    rw [hgk k (by omega), hk4 k hlt]
   refine ⟨by omega, kg, .inr ⟨q1, pp, _, rd, bl, _, rfl, PX.mk' hP (fun a n x e => (by cases e)), fun k hk => by have := hMlt k hk; omega, q5.same fun k hk => hgk k ?_, fun k hk => ⟨by have := hk.1; omega, fun h => by have := hMlt k h; have := hk.1; omega⟩, fun a ha => ⟨by have := q6 a ha; omega, fun h => by have := hMlt _ h; have := q6 a ha; omega⟩⟩⟩
   rcases hk with hk | ⟨a, ha, rfl⟩
   ·have := hk.1; omega
   ·rw [List.length_map] at ha
    have := q6 a ha; omega
end Go.Proofs.Ytmimialblhlklaa
