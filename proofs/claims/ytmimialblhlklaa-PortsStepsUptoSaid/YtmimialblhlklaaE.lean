/- Ports: New, Claim. -/
import Derived.Test.YtmimialblhlklaaD
set_option linter.unusedVariables false
set_option maxRecDepth 100000
namespace Go.Proofs.Ytmimialblhlklaa
open Go Go.Vm
variable {h : Heap} {R W I : Set'} {pp mp : Nat} {qs : List Nat} {T : PT}
def leftOK : Int → List Int → Bool
 | _, [] => true
 | l, n :: r => decide (0 ≤ n ∧ n ≤ l) && leftOK (l - n) r
def newOK (zs : List Int) : Bool := decide (zs.length ≠ 0 ∧ zs.length ≤ 8) && leftOK 16 zs
theorem leftOK_all : ∀ {l : Int} {zs : List Int}, leftOK l zs = true → 0 ≤ l → ∀ z ∈ zs, 0 ≤ z ∧ z ≤ l
 | l, [], _, _, z, hz => by cases hz
 | l, n :: r, h, hl, z, hz => by
  simp only [leftOK, Bool.and_eq_true, decide_eq_true_eq] at h
  rcases List.mem_cons.1 hz with rfl | hz
  ·exact h.1
  ·have := leftOK_all h.2 (by omega) z hz
   omega
def T0 : PT := fun _ _ => none
set_option maxHeartbeats 2000000 in
theorem new_ok {S : Set'} {v : V} {zs : List Int} (hv : LR h S v (zs.map (.int .i64))) (hR : ∀ b, R b) : SF Try.prog 24 [v] h R W fun r h' => (newOK zs = false ∧ r = .tuple [.ptr none, .int .i64 2] ∧ h' = h) ∨ (newOK zs = true ∧ ∃ pp mp, r = .tuple [.ptr (some (pp, 0)), .int .i64 0] ∧ PortsAt h' (fun b => h.n ≤ b ∧ ∃ c e, h'.get b = some (.cells c e) ∧ e ≠ 82 ∧ e ≠ 109) pp mp (zs.map Int.toNat) T0 ∧ h.n ≤ mp ∧ h.n ≤ h'.n ∧ ∀ b, b < h.n → h'.get b = h.get b) := by
 have hlen := hv.lenV Try.underlying30
 rw [List.length_map] at hlen
 refine SF.go hm Try.func24 ir24_eq ?_
 by_cases h0 : (zs.length : Int) = 0
 ·simp -implicitDefEqProofs (disch := (first | omega | fail)) only [go_sem, seval, ↓reduceIte, reduceCtorEq, ir24, ↓hlen, undefV, h0]
  exact .inl (by simp only [newOK, Bool.and_eq_false_iff, decide_eq_false_iff_not]; exact .inl (by omega))
 by_cases h8 : 8 < (zs.length : Int)
 ·simp -implicitDefEqProofs (disch := (first | omega | fail)) only [go_sem, seval, ↓reduceIte, reduceCtorEq, ir24, ↓hlen, h8]
  exact .inl (by simp only [newOK, Bool.and_eq_false_iff, decide_eq_false_iff_not]; exact .inl (by omega))
 simp -implicitDefEqProofs (disch := (first | omega | fail)) only [go_sem, seval, ↓reduceIte, reduceCtorEq, ir24, ↓hlen, h8]
 refine GLoop.inv hm (fun k f g => g = h ∧ f.mks = [] ∧ f.tm.n = 37 ∧ f.tm.get 0 = some v ∧ f.tm.get 15 = some v ∧ f.tm.get 16 = some (.int .i64 (zs.length : Int)) ∧ ∃ (i : Nat) (l : Int), i + k = zs.length ∧ f.tm.get 17 = some (.int .i64 (i : Int)) ∧ f.tm.get 4 = some (.int .i64 l) ∧ 0 ≤ l ∧ l ≤ 16 ∧ leftOK 16 zs = leftOK l (zs.drop i)) zs.length ?_ ?_
 ·exact ⟨rfl, rfl, rfl, by simp -implicitDefEqProofs (disch := (first | omega | fail)) only [go_sem, seval, ↓reduceIte], by simp -implicitDefEqProofs (disch := (first | omega | fail)) only [go_sem, seval, ↓reduceIte, reduceCtorEq], by simp -implicitDefEqProofs (disch := (first | omega | fail)) only [go_sem, seval, ↓reduceIte, reduceCtorEq], 0, 16, by omega, by simp -implicitDefEqProofs (disch := (first | omega | fail)) only [go_sem, Nat.reduceSub, Nat.reduceMod, Nat.reduceDiv, ↓reduceIte, reduceCtorEq]; rfl, by simp -implicitDefEqProofs (disch := (first | omega | fail)) only [go_sem, seval, ↓reduceIte, reduceCtorEq], by omega, by omega, rfl⟩
 rintro k ⟨⟨n', tr⟩, mks⟩ g ⟨rfl, hmk, hn', t0, t15, t16, i, l, hik, t17, t4, hl0, hl16, hlo⟩
 simp only [Tm.get_mk] at hmk hn' t0 t15 t16 t17 t4
 subst hmk hn'
 by_cases hin : i < zs.length
 ·obtain ⟨b, o, cap, ex, c, ce, rfl, hS, hb, hs, hg⟩ := hv.get (i := i) (by simpa using hin)
  have hRb := hR b
  rw [List.length_map] at hs t0 t15
  have hg' : c.get (o + i) = .int .i64 zs[i] := by rw [hg]; simp [List.getD, hin]
  have hdr : zs.drop i = zs[i] :: zs.drop (i + 1) := by rw [List.drop_eq_getElem_cons hin]
  rw [hdr] at hlo
  simp only [leftOK] at hlo
  generalize zs[i] = z at *
  by_cases z0 : z < 0
  ·simp -implicitDefEqProofs (disch := (first | omega | fail)) only [go_sem, seval, ↓reduceIte, ir24_l0, undefV, t15, t16, t17, hRb, hb, hg']
   rw [decide_eq_false (by omega), Bool.false_and] at hlo
   exact .inl (by simp only [newOK, hlo, Bool.and_false])
  by_cases z1 : l < z
  ·simp -implicitDefEqProofs (disch := (first | omega | fail)) only [go_sem, seval, ↓reduceIte, ir24_l0, t15, t16, t17, t4, hRb, hb, hg']
   rw [decide_eq_false (by omega), Bool.false_and] at hlo
   exact .inl (by simp only [newOK, hlo, Bool.and_false])
  ·simp -implicitDefEqProofs (disch := (first | omega | fail)) only [go_sem, seval, ↓reduceIte, reduceCtorEq, ir24_l0, t0, t15, t16, t17, t4, hRb, hb, hg', List.length_map]
   rw [decide_eq_true (by omega), Bool.true_and] at hlo
   exact ⟨k - 1, by omega, i + 1, l - z, by omega, by rfl, rfl, by omega, by omega, hlo⟩
 ·obtain rfl : i = zs.length := by omega
  rw [List.drop_length] at hlo
  have hok : newOK zs = true := by
   simp only [newOK, hlo, leftOK, Bool.and_true, decide_eq_true_eq]
   omega
  have hzs := leftOK_all hlo (by omega)
  simp -implicitDefEqProofs (disch := (first | omega | fail)) only [go_sem, seval, ↓reduceIte, reduceCtorEq, ir24_l0, t0, t16, t17]
  refine GCall.of (((clone60 (R := fun _ => True) (W := fun _ => False) hv (fun _ => trivial) (by rw [List.length_map]; omega) ?_).kept).foot (fun b _ => .inr (hR b)) (fun _ h => h.elim)) ?_
  ·have : ∀ l : List Int, allOne (l.map (V.int .i64)) = true := fun l => by
    induction l with
    | nil => rfl
    | cons x l ih => simp only [List.map_cons, allOne, V.one, ih]
   exact this zs
  rintro s g2 ⟨⟨hs, hk⟩, vf⟩
  have hn2 := vf.n
  have hso : s.one = true := hs.lr.one
  have hsc : s.cellsV = [s] := hs.lr.cells
  have hmap : zs.map (V.int .i64) = (zs.map Int.toNat).map fun n : Nat => V.int .i64 (n : Int) := by
   rw [List.map_map]
   refine List.map_congr_left fun z hz => ?_
   have := hzs z hz
   simp only [Function.comp]
   rw [show ((z.toNat : Nat) : Int) = z by omega]
  simp -implicitDefEqProofs (disch := (first | omega | fail)) only [go_sem, seval, ↓reduceIte, ↓hsc]
  have kq : ∀ b, b < g2.n → ((g2.push (O.map [] 0)).push (O.cells (Blk.of [s, V.map (some g2.n)]) 68)).get b = g2.get b := fun b hb => by rw [w_push_ne (by simp only [Heap.n_push]; omega), w_push_ne (by omega)]
  have km : ((g2.push (O.map [] 0)).push (O.cells (Blk.of [s, V.map (some g2.n)]) 68)).get g2.n = some (.map [] 0) := by rw [w_push_ne (by simp only [Heap.n_push]; omega)]; exact w_push_eq rfl _
  have kp : ((g2.push (O.map [] 0)).push (O.cells (Blk.of [s, V.map (some g2.n)]) 68)).get (g2.n + 1) = some (.cells (Blk.of [s, V.map (some g2.n)]) 68) := w_push_eq (by simp only [Heap.n_push]) _
  generalize (g2.push (O.map [] 0)).push (O.cells (Blk.of [s, V.map (some g2.n)]) 68) = g3 at kq km kp ⊢
  refine .inr ⟨hok, g2.n + 1, g2.n, rfl, ⟨⟨_, kp, rfl, rfl, ?_⟩, ⟨by omega, _, _, kp, by decide⟩, ⟨[], 0, km, PMap.nil, fun k => ?_⟩, fun a n b x e => by (cases e), fun a n b x a' n' x' e => by (cases e), fun a n x e => by (cases e), ⟨by simp only [List.length_map]; omega, by simp only [List.length_map]; omega, fun q hq => ?_⟩, fun b hb => hb.2⟩, hn2, by omega, fun b hb => by rw [kq b (by omega), hk b hb]⟩
  ·show LR g3 _ s _
   rw [← hmap]
   refine (hs.lrf.same fun k h1 h2 => kq k h2).mono fun b _ h1 => ⟨h1.1, ?_⟩
   obtain ⟨c, h2⟩ := h1.2
   exact ⟨c, 3, by rw [kq b (Heap.lt_of_get h2)]; exact h2, by decide⟩
  ·unfold lookT T0
   split <;> rfl
  ·obtain ⟨z, hz, rfl⟩ := List.mem_map.1 hq
   have := hzs z hz
   omega
theorem nodup_lt : ∀ (n : Nat) (l : List Nat), l.Nodup → (∀ x ∈ l, x < n) → l.length ≤ n
 | 0, [], _, _ => Nat.le_refl _
 | 0, x :: l, _, h => by have := h x (by simp); omega
 | n + 1, l, hn, h => by
  by_cases hm' : n ∈ l
  ·have h1 := nodup_lt n (l.erase n) (hn.sublist List.erase_sublist) fun x hx => by
    have h2 := h x (List.mem_of_mem_erase hx)
    have h3 : x ≠ n := fun e => by subst e; exact (List.Nodup.not_mem_erase hn) hx
    omega
   rw [List.length_erase_of_mem hm'] at h1
   omega
  ·have := nodup_lt n l hn fun x hx => by
    have h2 := h x hx
    have h3 : x ≠ n := fun e => hm' (by rw [← e]; exact hx)
    omega
   omega
theorem PortsAt.add (hp : PortsAt h I pp mp qs T) {h' : Heap} {I' : Set'} {a n b : Nat} {x : Pt} {es' : Ents} {ck : Nat} (e : T a n = none) (hq' : ∃ q, qs[a]? = some q ∧ n < q) (hI : ∀ b, I b → I' b) (hk : ∀ k, k < h.n → k ≠ mp → h'.get k = h.get k) (hm' : h'.get mp = some (.map es' ck)) (hP : PMap es' ck) (hg : ∀ k, getP es' k = if k = ((a : Int), (n : Int)) then some (V.ptr (some (b, 0))) else (lookT T k.1 k.2).map fun x => V.ptr (some (x.1, 0))) (hb : h.n ≤ b) (hx : PortAt h' I' b x) (him : ∀ k, I' k → I k ∨ ∃ c e, h'.get k = some (.cells c e) ∧ e ≠ 82 ∧ e ≠ 109) : PortsAt h' I' pp mp qs (updT T a n (some (b, x))) := by
 obtain ⟨⟨c, c1, c2, c3, c4⟩, ip, ⟨es, ck, m1, m2, m3⟩, pt, inj, dom, hq, imm⟩ := id hp
 have kI : ∀ k, I k → k < h.n → h'.get k = h.get k := fun k hki hkn => hk k hkn (fun h0 => by
  obtain ⟨c', e', i1, i2⟩ := imm k hki
  rw [h0, m1] at i1; cases i1)
 have hup : ∀ a' n', updT T a n (some (b, x)) a' n' = if a' = a ∧ n' = n then some (b, x) else T a' n' := fun _ _ => rfl
 refine ⟨⟨c, by rw [kI _ ip (Heap.lt_of_get c1)]; exact c1, c2, c3, (c4.same kI).mono fun b _ => hI b⟩, hI _ ip, ⟨es', _, hm', hP, fun k => ?_⟩, fun a' n' b' y e' => ?_, fun a1 n1 b1 y1 a2 n2 y2 e1 e2 => ?_, fun a' n' y e' => ?_, hq, fun k hk' => ?_⟩
 ·rw [hg]
  unfold lookT
  by_cases hc : 0 ≤ k.1 ∧ 0 ≤ k.2
  ·rw [if_pos hc, if_pos hc, hup]
   by_cases hc2 : k.1.toNat = a ∧ k.2.toNat = n
   ·rw [if_pos hc2, if_pos (Prod.ext (by simp only []; omega) (by simp only []; omega))]; rfl
   ·rw [if_neg hc2, if_neg fun h0 => hc2 (by rw [h0]; exact ⟨rfl, rfl⟩)]
  ·rw [if_neg hc, if_neg hc, if_neg fun h0 => hc (by rw [h0]; simp only []; omega)]
 ·rw [hup] at e'
  by_cases hc : a' = a ∧ n' = n
  ·rw [if_pos hc] at e'; cases e'; exact hx
  ·rw [if_neg hc] at e'
   exact ((pt _ _ _ _ e').same (hk _ (pt _ _ _ _ e').lt (hp.ne_mp e')) kI).mono hI
 ·have hbb : ∀ a' n' y, T a' n' = some (b, y) → False := fun a' n' y e' => by
   have := (pt _ _ _ _ e').lt; omega
  rw [hup] at e1 e2
  by_cases h1 : a1 = a ∧ n1 = n
  ·rw [if_pos h1] at e1; cases e1
   by_cases h2 : a2 = a ∧ n2 = n
   ·omega
   ·rw [if_neg h2] at e2; exact (hbb _ _ _ e2).elim
  ·rw [if_neg h1] at e1
   by_cases h2 : a2 = a ∧ n2 = n
   ·rw [if_pos h2] at e2; cases e2; exact (hbb _ _ _ e1).elim
   ·rw [if_neg h2] at e2; exact inj _ _ _ _ _ _ _ e1 e2
 ·rw [hup] at e'
  by_cases hc : a' = a ∧ n' = n
  ·rw [hc.1, hc.2]; exact hq'
  ·rw [if_neg hc] at e'; exact dom _ _ _ e'
 ·rcases him k hk' with h1 | h1
  ·obtain ⟨c', e', i1, i2⟩ := imm k h1
   exact ⟨c', e', by rw [kI k h1 (Heap.lt_of_get i1)]; exact i1, i2⟩
  ·exact h1
def freeN (T : PT) (a : Nat) : Nat → Nat → Option Nat
 | _, 0 => none
 | i, k + 1 => match T a i with
  | none => some i
  | some _ => freeN T a (i + 1) k
def claimN (qs : List Nat) (T : PT) (a : Int) (L : List Te) : Int × Int := if okA qs a then (if okF L then (match freeN T a.toNat 0 (qs.getD a.toNat 0) with | some n => ((n : Int), 0) | none => (0, 5)) else (0, 2)) else (0, 2)
end Go.Proofs.Ytmimialblhlklaa
