/- The document's ports in memory; New of it. -/
import Derived.Test.YtmimialblhlklaaF9
set_option linter.unusedVariables false
set_option maxRecDepth 100000
namespace Go.Proofs.Ytmimialblhlklaa
open Go Go.Vm
variable {h : Heap} {R W I : Set'}
theorem ap_104 : apT Try.prog 104 104 = some (107, 1, 24) := by kernel_rfl
theorem rep_get (n : Nat) (z : List V) (i : Nat) : (Blk.rep n z).get i = z.getD (i % z.length) undefV := by simp [Blk.get, layGet, Blk.rep, Tr.get_nil]
def leCap : V → Prop
 | .slice _ n c _ => n ≤ c
 | _ => True
def RingV (g : Heap) (I : Set') (v : V) (r : List (List V)) : Prop := (r = [] ∧ ∃ a l, v = .eop a l) ∨ ∃ sl : List V, LR g I v sl ∧ leCap v ∧ sl.length = r.length ∧ ∀ i v, sl[i]? = some v → LR g I v (r.getD i [])
theorem RingV.same {g g' : Heap} {I : Set'} {v : V} {r : List (List V)} (hv : RingV g I v r) (hk : ∀ k, I k → g'.get k = g.get k) : RingV g' I v r := by
 rcases hv with h | ⟨sl, h3, h0, h4, h5⟩
 ·exact .inl h
 ·exact .inr ⟨sl, h3.same fun k h _ => hk k h, h0, h4, fun i v e => (h5 i v e).same fun k h _ => hk k h⟩
theorem RingV.mono {g : Heap} {I I' : Set'} {v : V} {r : List (List V)} (hv : RingV g I v r) (hk : ∀ k, I k → I' k) : RingV g I' v r := by
 rcases hv with h | ⟨sl, h3, h0, h4, h5⟩
 ·exact .inl h
 ·exact .inr ⟨sl, h3.mono fun k _ h => hk k h, h0, h4, fun i v e => (h5 i v e).mono fun k _ h => hk k h⟩
theorem RingV.one {g : Heap} {I : Set'} {v : V} {r : List (List V)} (hv : RingV g I v r) : v.one = true := by
 rcases hv with ⟨_, a, l, rfl⟩ | ⟨sl, h3, _⟩
 ·rfl
 ·exact h3.one
theorem RingV.lenV {g : Heap} {I : Set'} {v : V} {r : List (List V)} (hv : RingV g I v r) (g' : Heap) : Go.Vm.lenV Try.prog 23 v g' = some (r.length, []) := by
 rcases hv with ⟨rfl, a, l, rfl⟩ | ⟨sl, h1, h0, h2, h3⟩
 ·simp only [Go.Vm.lenV, Try.underlying23]; rfl
 ·rw [← h2]; exact h1.lenV Try.underlying23 g'
theorem RingV.at' {g : Heap} {I : Set'} {v : V} {r : List (List V)} (hv : RingV g I v r) {i : Nat} (hi : i < r.length) : ∃ b o cap ex c ce w, v = .slice (some (b, o)) r.length cap ex ∧ r.length ≤ cap ∧ I b ∧ g.get b = some (.cells c ce) ∧ o + r.length ≤ c.size ∧ c.get (o + i) = w ∧ LR g I w r[i] := by
 rcases hv with ⟨rfl, _⟩ | ⟨sl, h1, h0, h2, h3⟩
 ·simp at hi
 ·obtain ⟨b, o, cap, ex, c, ce, e, hI, hb, hs, hg⟩ := h1.get (i := i) (by omega)
  have hsi : i < sl.length := by omega
  have hw := h3 i sl[i] (List.getElem?_eq_getElem hsi)
  rw [List.getD_eq_getElem?_getD, List.getElem?_eq_getElem hi, Option.getD_some] at hw
  rw [h2] at e hs
  refine ⟨b, o, cap, ex, c, ce, sl[i], e, by subst e; exact h0, hI, hb, hs, ?_, hw⟩
  rw [hg, List.getD_eq_getElem?_getD, List.getElem?_eq_getElem hsi]; rfl
def PortC (g : Heap) (I : Set') (c : Blk) (o : Nat) : Option Pt → Prop
 | none => c.get o = .bool false ∧ c.get (o + 1) = .slice none 0 0 true ∧ c.get (o + 2) = .slice none 0 0 true ∧ c.get (o + 3) = .int .i64 0
 | some x => c.get o = .bool true ∧ TestsV g I (c.get (o + 1)) x.ts ∧ RingV g I (c.get (o + 2)) x.ring ∧ c.get (o + 3) = .int .i64 x.lost
def slV (bl : Nat → Nat) (qs : List Nat) : List V := (List.range qs.length).map fun a => .slice (some (bl a, 0)) (qs.getD a 0) (qs.getD a 0) true
theorem slV_len (bl : Nat → Nat) (qs : List Nat) : (slV bl qs).length = qs.length := by simp [slV]
theorem slV_get (bl : Nat → Nat) (qs : List Nat) {a q : Nat} (e : qs[a]? = some q) : (slV bl qs)[a]? = some (.slice (some (bl a, 0)) q q true) := by
 have ha := (List.getElem?_eq_some_iff.1 e).1
 unfold slV
 rw [List.getElem?_map, List.getElem?_range ha]
 simp only [Option.map_some, List.getD_eq_getElem?_getD, e, Option.getD_some]
theorem slV_snoc (bl : Nat → Nat) (qs : List Nat) (q b : Nat) : slV (fun a => if a = qs.length then b else bl a) (qs ++ [q]) = slV bl qs ++ [.slice (some (b, 0)) q q true] := by
 unfold slV
 rw [List.length_append, List.length_singleton, List.range_succ, List.map_append]
 congr 1
 ·refine List.map_congr_left fun a ha => ?_
  have := List.mem_range.1 ha
  show V.slice (some (if a = qs.length then b else bl a, 0)) _ _ _ = _
  rw [if_neg (by omega), List.getD_eq_getElem?_getD, List.getElem?_append_left this, ← List.getD_eq_getElem?_getD]
 ·simp [List.getD_eq_getElem?_getD]
structure RPorts (g : Heap) (I : Set') (rd : Nat) (bl : Nat → Nat) (qs : List Nat) (S : AT) : Prop where
 c : ∃ c, g.get rd = some (.cells c 106) ∧ c.size = 1 ∧ LR g I (c.get 0) (slV bl qs)
 ir : I rd
 b : ∀ a q, qs[a]? = some q → ∃ c, g.get (bl a) = some (.cells c 109) ∧ c.size = q * 4 ∧ c.ro = false ∧ ∀ n, n < q → PortC g I c (n * 4) (S a n)
 dom : ∀ a n x, S a n = some x → ∃ q, qs[a]? = some q ∧ n < q
 inj : ∀ a a', a < qs.length → a' < qs.length → bl a = bl a' → a = a'
 imm : ∀ k, I k → ∃ c e, g.get k = some (.cells c e) ∧ e ≠ 109 ∧ e ≠ 82
 qs : 0 < qs.length ∧ qs.length ≤ 8 ∧ ∀ q ∈ qs, q ≤ 16
set_option maxHeartbeats 4000000 in
theorem rnew_ok {S0 : Set'} {v : V} {zs : List Int} (hv : LR h S0 v (zs.map (.int .i64))) (hR : ∀ b, R b) : SF Try.prog 29 [v] h R W fun r g => h.n ≤ g.n ∧ (∀ k, k < h.n → g.get k = h.get k) ∧ ((newOK zs = false ∧ r = .tuple [.ptr none, .int .i64 2]) ∨ (newOK zs = true ∧ ∃ rd bl, r = .tuple [.ptr (some (rd, 0)), .int .i64 0] ∧ RPorts g (fun k => h.n ≤ k ∧ ∃ c e, g.get k = some (.cells c e) ∧ e ≠ 109 ∧ e ≠ 82) rd bl (zs.map Int.toNat) (fun _ _ => none) ∧ ∀ a, a < zs.length → h.n ≤ bl a)) := by
 have hlen := hv.lenV Try.underlying30
 rw [List.length_map] at hlen
 refine SF.go hm Try.func29 ir29_eq ?_
 by_cases h0 : (zs.length : Int) = 0
 ·simp -implicitDefEqProofs (disch := (first | omega | fail)) only [go_sem, seval, ↓reduceIte, reduceCtorEq, ir29, ↓hlen, undefV, h0]
  exact .inl (by simp only [newOK, Bool.and_eq_false_iff, decide_eq_false_iff_not]; exact .inl (by omega))
 by_cases h8 : 8 < (zs.length : Int)
 ·simp -implicitDefEqProofs (disch := (first | omega | fail)) only [go_sem, seval, ↓reduceIte, reduceCtorEq, ir29, ↓hlen, h8]
  exact .inl (by simp only [newOK, Bool.and_eq_false_iff, decide_eq_false_iff_not]; exact .inl (by omega))
 simp -implicitDefEqProofs (disch := (first | omega | fail)) only [go_sem, seval, ↓reduceIte, reduceCtorEq, ir29, ↓hlen, h8]
 refine GLoop.inv hm (fun k f g => f.mks = [] ∧ f.tm.n = 57 ∧ f.tm.get 0 = some v ∧ f.tm.get 4 = some (.ptr (some (h.n, 0))) ∧ h.n + 1 ≤ g.n ∧ (∀ b, b < h.n → g.get b = h.get b) ∧ ∃ (i : Nat) (l : Int) (bl : Nat → Nat) (c : Blk), i + k = zs.length ∧ f.tm.get 6 = some (.int .i64 (i : Int)) ∧ f.tm.get 5 = some (.int .i64 l) ∧ 0 ≤ l ∧ l ≤ 16 ∧ leftOK 16 zs = leftOK l (zs.drop i) ∧ g.get h.n = some (.cells c 106) ∧ c.size = 1 ∧ c.ro = false ∧ Own (h.n + 1) g (c.get 0) (slV bl ((zs.take i).map Int.toNat)) 107 ∧ (∀ a, a < i → h.n + 1 ≤ bl a) ∧ (∀ a a', a < i → a' < i → bl a = bl a' → a = a') ∧ ∀ a q, ((zs.take i).map Int.toNat)[a]? = some q → ∃ c, g.get (bl a) = some (.cells c 109) ∧ c.size = q * 4 ∧ c.ro = false ∧ ∀ n, n < q → PortC g (fun _ => False) c (n * 4) none) zs.length ?_ ?_
 ·exact ⟨rfl, rfl, by simp -implicitDefEqProofs (disch := (first | omega | fail)) only [go_sem, seval, ↓reduceIte], by simp -implicitDefEqProofs (disch := (first | omega | fail)) only [go_sem, seval, ↓reduceIte, reduceCtorEq], by simp, fun b hb => w_push_ne (by omega) _, 0, 16, fun _ => 0, _, by omega, by simp -implicitDefEqProofs (disch := (first | omega | fail)) only [go_sem, Nat.reduceSub, Nat.reduceMod, Nat.reduceDiv, ↓reduceIte, reduceCtorEq]; rfl, by simp -implicitDefEqProofs (disch := (first | omega | fail)) only [go_sem, seval, ↓reduceIte, reduceCtorEq], by omega, by omega, rfl, w_push_eq rfl _, rfl, rfl, Own.nil _ _ _, fun a ha => by omega, fun a a' ha => by omega, fun a q e => by simp at e⟩
 rintro k ⟨⟨n', tr⟩, mks⟩ g ⟨hmk, hn', t0, t4, hgn, hgo, i, l, bl, c, hik, t6, t5, hl0, hl16, hlo, hc, hc1, hc2, ho, hbn, hbi, hbz⟩
 simp only [Tm.get_mk] at hmk hn' t0 t4 t6 t5
 subst hmk hn'
 by_cases hin : i < zs.length
 ·obtain ⟨b, o, cap, ex, cz, ce, rfl, hS, hb, hs, hg⟩ := (hv.old hgo).get (i := i) (by simpa using hin)
  have hRb := hR b
  rw [List.length_map] at hs t0 hlen
  have hg' : cz.get (o + i) = .int .i64 zs[i] := by rw [hg]; simp [List.getD, hin]
  have hdr : zs.drop i = zs[i] :: zs.drop (i + 1) := by rw [List.drop_eq_getElem_cons hin]
  have htk : (zs.take (i + 1)).map Int.toNat = (zs.take i).map Int.toNat ++ [zs[i].toNat] := by
   rw [List.take_add_one, List.getElem?_eq_getElem hin, List.map_append]; rfl
  have htl : ((zs.take i).map Int.toNat).length = i := by rw [List.length_map, List.length_take]; omega
  rw [hdr] at hlo
  simp only [leftOK] at hlo
  generalize zs[i] = z at *
  by_cases z0 : z < 0
  ·simp -implicitDefEqProofs (disch := (first | omega | fail)) only [go_sem, seval, ↓reduceIte, reduceCtorEq, ir29_l0, undefV, t0, t6, hRb, hb, hg', ↓hlen]
   rw [decide_eq_false (by omega), Bool.false_and] at hlo
   exact ⟨by omega, hgo, .inl (by simp only [newOK, hlo, Bool.and_false])⟩
  by_cases z1 : l < z
  ·simp -implicitDefEqProofs (disch := (first | omega | fail)) only [go_sem, seval, ↓reduceIte, reduceCtorEq, ir29_l0, t0, t5, t6, hRb, hb, hg', ↓hlen]
   rw [decide_eq_false (by omega), Bool.false_and] at hlo
   exact ⟨by omega, hgo, .inl (by simp only [newOK, hlo, Bool.and_false])⟩
  rw [decide_eq_true (by omega), Bool.true_and] at hlo
  have hz16 : (64 : Nat) * z.toNat ≤ 281474976710656 := by omega
  have hz63 : z ≤ 9223372036854775807 := by omega
  have hz0 : 0 ≤ z := by omega
  have hzl : z ≤ z := Int.le_refl _
  obtain ⟨v', h', r, w, hap, hon, hnn, hold, hw, hk', hty⟩ := app_own (n0 := h.n + 1) (h := (g.push (.cells (Blk.rep (z.toNat * 4) [V.bool false, V.slice none 0 0 true, V.slice none 0 0 true, V.int IntKind.i64 0]) 109)).push (.cells (Blk.of [.slice (some (g.n, 0)) z.toNat z.toNat true]) 107)) (v := c.get 0) (x := .slice (some (g.n + 1, 0)) 1 1 true) (l := slV bl ((zs.take i).map Int.toNat)) (news := [.slice (some (g.n, 0)) z.toNat z.toNat true]) (rs := [g.n + 1]) (e := 107) (bytes := 24) (ho.old fun b hb => by rw [w_push_ne (by simp; omega), w_push_ne (by omega)]) (by simp; omega) rfl (first_one (w_push_eq (by simp) _)) rfl (by rw [slV_len, htl]; simp; omega) (by rw [slV_len, htl]; simp; omega)
  have hvo' := hon.lr.one
  have hvc' := hon.lr.cells
  have hcc : h'.get h.n = some (.cells c 106) := by rw [hold _ (by omega), w_push_ne (by simp; omega), w_push_ne (by omega)]; exact hc
  simp -implicitDefEqProofs (disch := (first | omega | fail)) only [go_sem, seval, ↓reduceIte, reduceCtorEq, ir29_l0, undefV, t0, t4, t5, t6, hRb, hb, hg', ↓hlen, hc, hc1, hc2, mk_107, hz16, hz63, hz0, hzl, appendV_of ap_104, hap, ↓hvo', ↓hvc', hcc]
  have hGl : h.n < h'.n := Heap.lt_of_get hcc
  have kS : ∀ k, k ≠ h.n → (h'.set h.n (.cells (c.set 0 v') 106)).get k = h'.get k := fun k hk => w_set_ne hGl hk _
  have kO : ∀ k c2 e, e ≠ 107 → k ≠ h.n → g.get k = some (.cells c2 e) → (h'.set h.n (.cells (c.set 0 v') 106)).get k = some (.cells c2 e) := fun k c2 e he hk h1 => by
   have hlt := Heap.lt_of_get h1
   have hpp : ((g.push (.cells (Blk.rep (z.toNat * 4) [V.bool false, V.slice none 0 0 true, V.slice none 0 0 true, V.int IntKind.i64 0]) 109)).push (.cells (Blk.of [.slice (some (g.n, 0)) z.toNat z.toNat true]) 107)).get k = g.get k := by rw [w_push_ne (by simp; omega), w_push_ne (by omega)]
   rw [kS k hk, hk' k (by simp; omega) (fun hw' => ?_), hpp]
   ·exact h1
   ·obtain ⟨c', e'⟩ := hty k hw'
    rw [hpp, h1] at e'; cases e'; exact he rfl
  have kN : (h'.set h.n (.cells (c.set 0 v') 106)).get g.n = some (.cells (Blk.rep (z.toNat * 4) [V.bool false, V.slice none 0 0 true, V.slice none 0 0 true, V.int IntKind.i64 0]) 109) := by
   have hpp : ((g.push (.cells (Blk.rep (z.toNat * 4) [V.bool false, V.slice none 0 0 true, V.slice none 0 0 true, V.int IntKind.i64 0]) 109)).push (.cells (Blk.of [.slice (some (g.n, 0)) z.toNat z.toNat true]) 107)).get g.n = some (.cells (Blk.rep (z.toNat * 4) [V.bool false, V.slice none 0 0 true, V.slice none 0 0 true, V.int IntKind.i64 0]) 109) := by rw [w_push_ne (by simp)]; exact w_push_eq rfl _
   rw [kS _ (by omega), hk' _ (by simp only [Heap.n_push]; omega) (fun hw' => ?_), hpp]
   obtain ⟨c', e'⟩ := hty _ hw'
   rw [hpp] at e'; cases e'
  refine ⟨?_, ⟨fun b _ _ => .inr (hR b), fun b _ h1 => .inl (by have := hw b h1; omega)⟩, k - 1, by omega, by rw [List.length_map], by simp at hnn; omega, fun b hb => ?_, i + 1, l - z, fun a => if a = i then g.n else bl a, _, by omega, rfl, rfl, by omega, by omega, hlo, w_set_eq hGl rfl _, by rw [Blk.size_set]; exact hc1, by rw [Blk.ro_set]; exact hc2, ?_, fun a ha => ?_, fun a a' ha ha' e => ?_, fun a q e => ?_⟩
  ·simp only [List.not_mem_nil, and_false, false_or, or_false, not_false_eq_true, implies_true, and_true, true_and, false_implies, and_self]
   and_intros
   all_goals (intros; omega)
  ·rw [kS b (by omega), hold b (by omega), w_push_ne (by simp; omega), w_push_ne (by omega)]; exact hgo b hb
  ·have hsn := slV_snoc bl ((zs.take i).map Int.toNat) z.toNat g.n
   rw [htl] at hsn
   rw [htk, hsn, show (c.set 0 v').get 0 = v' from w_bset_eq rfl _]
   exact hon.keep fun k c' h1 => by
    rw [kS k (fun e => by rw [e, hcc] at h1; cases h1)]; exact h1
  ·show h.n + 1 ≤ if a = i then g.n else bl a
   split
   ·omega
   ·exact hbn a (by omega)
  ·have lt : ∀ a, a < i → bl a < g.n := fun a ha => by
    have e1 : ((zs.take i).map Int.toNat)[a]? = some (((zs.take i).map Int.toNat)[a]'(by rw [htl]; exact ha)) := List.getElem?_eq_getElem _
    obtain ⟨c', h1, _⟩ := hbz a _ e1
    exact Heap.lt_of_get h1
   have e' : (if a = i then g.n else bl a) = if a' = i then g.n else bl a' := e
   by_cases h1 : a = i
   ·by_cases h2 : a' = i
    ·omega
    ·rw [if_pos h1, if_neg h2] at e'
     have := lt a' (by omega); omega
   ·by_cases h2 : a' = i
    ·rw [if_neg h1, if_pos h2] at e'
     have := lt a (by omega); omega
    ·rw [if_neg h1, if_neg h2] at e'
     exact hbi a a' (by omega) (by omega) e'
  ·rw [htk] at e
   by_cases h1 : a = i
   ·subst h1
    have e2 : q = z.toNat := by
     rw [List.getElem?_append_right (by omega), htl, Nat.sub_self] at e
     exact (Option.some.inj e).symm
    subst e2
    refine ⟨_, by simp only [if_true]; exact kN, rfl, rfl, fun n hn => ?_⟩
    refine ⟨?_, ?_, ?_, ?_⟩
    ·rw [rep_get]; simp
    ·rw [rep_get, show (n * 4 + 1) % [V.bool false, V.slice none 0 0 true, V.slice none 0 0 true, V.int IntKind.i64 0].length = 1 by simp only [List.length_cons, List.length_nil]; omega]; rfl
    ·rw [rep_get, show (n * 4 + 2) % [V.bool false, V.slice none 0 0 true, V.slice none 0 0 true, V.int IntKind.i64 0].length = 2 by simp only [List.length_cons, List.length_nil]; omega]; rfl
    ·rw [rep_get, show (n * 4 + 3) % [V.bool false, V.slice none 0 0 true, V.slice none 0 0 true, V.int IntKind.i64 0].length = 3 by simp only [List.length_cons, List.length_nil]; omega]; rfl
   ·have h2 : a < i := by
     have := (List.getElem?_eq_some_iff.1 e).1
     rw [List.length_append, htl, List.length_singleton] at this
     omega
    rw [List.getElem?_append_left (by rw [htl]; exact h2)] at e
    obtain ⟨c', q1, q2, q3, q4⟩ := hbz a q e
    simp only [h1, if_false]
    exact ⟨c', kO _ _ _ (by decide) (by have := hbn a h2; omega) q1, q2, q3, q4⟩
 ·obtain rfl : i = zs.length := by omega
  rw [List.drop_length] at hlo
  have hok : newOK zs = true := by
   simp only [newOK, hlo, leftOK, Bool.and_true, decide_eq_true_eq]
   omega
  have hzs := leftOK_all hlo (by omega)
  rw [List.take_length] at ho hbz
  simp -implicitDefEqProofs (disch := (first | omega | fail)) only [go_sem, seval, ↓reduceIte, reduceCtorEq, ir29_l0, t0, t4, t6, ↓hlen]
  refine ⟨by omega, hgo, .inr ⟨hok, h.n, bl, rfl, ⟨⟨c, hc, hc1, ho.lrf.mono fun k _ h1 => ⟨by have := h1.1; omega, by obtain ⟨c', e⟩ := h1.2; exact ⟨c', 107, e, by decide⟩⟩⟩, ⟨Nat.le_refl _, c, 106, hc, by decide⟩, fun a q e => ?_, fun a n x e => (by cases e), fun a a' ha ha' e => hbi a a' (by simpa using ha) (by simpa using ha') e, fun k hk => hk.2, by simp only [List.length_map]; omega, by simp only [List.length_map]; omega, fun q hq => ?_⟩, fun a ha => by have := hbn a ha; omega⟩⟩
  ·obtain ⟨c', q1, q2, q3, q4⟩ := hbz a q e
   exact ⟨c', q1, q2, q3, q4⟩
  ·obtain ⟨z, hz, rfl⟩ := List.mem_map.1 hq
   have := hzs z hz
   omega
end Go.Proofs.Ytmimialblhlklaa
