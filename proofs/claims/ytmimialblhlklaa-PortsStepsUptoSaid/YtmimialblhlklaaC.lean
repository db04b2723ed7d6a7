/- Ports: Home, Quota, Len, Lost, Filter, Look, Take, Close. -/
import Derived.Test.YtmimialblhlklaaB
set_option linter.unusedVariables false
set_option maxRecDepth 100000
namespace Go.Proofs.Ytmimialblhlklaa
open Go Go.Vm
variable {h : Heap} {R W I : Set'} {pp mp : Nat} {qs : List Nat} {T : PT}
def updT (T : PT) (a n : Nat) (y : Option (Nat × Pt)) : PT := fun a' n' => if a' = a ∧ n' = n then y else T a' n'
theorem lookT_some {a n : Int} {y : Nat × Pt} (e : lookT T a n = some y) : 0 ≤ a ∧ 0 ≤ n ∧ T a.toNat n.toNat = some y := by
 unfold lookT at e
 split at e
 ·rename_i hc; exact ⟨hc.1, hc.2, e⟩
 ·cases e
theorem PortsAt.okA_of (hp : PortsAt h I pp mp qs T) {a n : Int} {y : Nat × Pt} (e : lookT T a n = some y) : okA qs a := by
 obtain ⟨h0, h1, h2⟩ := lookT_some e
 obtain ⟨q, hq, _⟩ := hp.dom _ _ _ h2
 have := (List.getElem?_eq_some_iff.1 hq).1
 exact ⟨h0, by omega⟩
theorem PortsAt.look_none (hp : PortsAt h I pp mp qs T) {a n : Int} (e : ¬ okA qs a) : lookT T a n = none := by
 cases hl : lookT T a n with
 | none => rfl
 | some y => exact absurd (hp.okA_of hl) e
def askE (qs : List Nat) (T : PT) (a n : Int) : Int := if okA qs a then (if (lookT T a n).isSome then 0 else 6) else 2
theorem getV_cases (hp : PortsAt h I pp mp qs T) (a n : Int) : (∃ b x, lookT T a n = some (b, x) ∧ askE qs T a n = 0 ∧ getV qs T a n = .tuple [.ptr (some (b, 0)), .int .i64 0]) ∨ (lookT T a n = none ∧ askE qs T a n ≠ 0 ∧ getV qs T a n = .tuple [.ptr none, .int .i64 (askE qs T a n)]) := by
 unfold getV askE
 by_cases ha : okA qs a
 ·rw [if_pos ha, if_pos ha]
  cases hl : lookT T a n with
  | none => exact .inr ⟨rfl, by decide, rfl⟩
  | some y => exact .inl ⟨y.1, y.2, rfl, rfl, rfl⟩
 ·rw [if_neg ha, if_neg ha]
  exact .inr ⟨hp.look_none ha, by decide, rfl⟩
theorem PortAt.mono {b : Nat} {x : Pt} {I' : Set'} (hp : PortAt h I b x) (hI : ∀ b, I b → I' b) : PortAt h I' b x := by
 obtain ⟨⟨c, f, c1, c2, c3, c4, c5, c6, c7, c8, c9, c10⟩, hl⟩ := hp
 exact ⟨⟨c, f, c1, c2, c3, LRs.mono c4 fun b _ => hI b, c5, c6, c7, c8, fun i hi => (c9 i hi).mono fun b _ => hI b, fun j hj => (c10 j hj).imp fun l hl => hl.mono fun b _ => hI b⟩, hl⟩
theorem PortsAt.ne82 (hp : PortsAt h I pp mp qs T) {k : Nat} (hk : I k) {a n b : Nat} {x : Pt} (e : T a n = some (b, x)) : k ≠ b := by
 obtain ⟨c, f, c1, _⟩ := (hp.pt a n b x e).c
 obtain ⟨c', e', h1, h2⟩ := hp.imm k hk
 intro h0
 rw [h0, c1] at h1
 cases h1; exact h2.1 rfl
theorem PortsAt.ne_mp (hp : PortsAt h I pp mp qs T) {a n b : Nat} {x : Pt} (e : T a n = some (b, x)) : b ≠ mp := by
 obtain ⟨c, f, c1, _⟩ := (hp.pt a n b x e).c
 obtain ⟨es, ck, m1, _⟩ := hp.m
 intro h0
 rw [h0, m1] at c1
 cases c1
theorem PortsAt.put2 (hp : PortsAt h I pp mp qs T) {h' : Heap} {I' : Set'} {a n b : Nat} {x x' : Pt} (e : T a n = some (b, x)) (hI : ∀ b, I b → I' b) (hk : ∀ k, I k ∨ MutB mp T k → k < h.n → k ≠ b → h'.get k = h.get k) (hx : PortAt h' I' b x') (him : ∀ k, I' k → I k ∨ ∃ c e, h'.get k = some (.cells c e) ∧ e ≠ 82 ∧ e ≠ 109) : PortsAt h' I' pp mp qs (updT T a n (some (b, x'))) := by
 have kI : ∀ k, I k → k < h.n → h'.get k = h.get k := fun k hki hkn => hk k (.inl hki) hkn (hp.ne82 hki e)
 obtain ⟨⟨c, c1, c2, c3, c4⟩, ip, ⟨es, ck, m1, m2, m3⟩, pt, inj, dom, hq, imm⟩ := id hp
 have hup : ∀ a' n', updT T a n (some (b, x')) a' n' = if a' = a ∧ n' = n then some (b, x') else T a' n' := fun _ _ => rfl
 have hnb : ∀ a' n' b' y, ¬ (a' = a ∧ n' = n) → T a' n' = some (b', y) → b' ≠ b := fun a' n' b' y hne e' h0 => hne (by subst h0; exact inj _ _ _ _ _ _ _ e' e)
 refine ⟨⟨c, by rw [kI _ ip (Heap.lt_of_get c1)]; exact c1, c2, c3, (c4.same kI).mono fun b _ => hI b⟩, hI _ ip, ⟨es, ck, ?_, m2, fun k => ?_⟩, fun a' n' b' y e' => ?_, fun a1 n1 b1 y1 a2 n2 y2 e1 e2 => ?_, fun a' n' y e' => ?_, hq, fun k hk' => ?_⟩
 ·rw [hk mp (.inr (.inl rfl)) (Heap.lt_of_get m1) (hp.ne_mp e).symm]; exact m1
 ·rw [m3]
  unfold lookT
  by_cases hc : 0 ≤ k.1 ∧ 0 ≤ k.2
  ·rw [if_pos hc, if_pos hc, hup]
   by_cases hc2 : k.1.toNat = a ∧ k.2.toNat = n
   ·rw [if_pos hc2, hc2.1, hc2.2, e]; rfl
   ·rw [if_neg hc2]
  ·rw [if_neg hc, if_neg hc]
 ·rw [hup] at e'
  by_cases hc : a' = a ∧ n' = n
  ·rw [if_pos hc] at e'; cases e'; exact hx
  ·rw [if_neg hc] at e'
   exact ((pt _ _ _ _ e').same (hk _ (.inr (.inr ⟨_, _, _, e'⟩)) (pt _ _ _ _ e').lt (hnb _ _ _ _ hc e')) kI).mono hI
 ·rw [hup] at e1 e2
  by_cases h1 : a1 = a ∧ n1 = n
  ·rw [if_pos h1] at e1; cases e1
   by_cases h2 : a2 = a ∧ n2 = n
   ·omega
   ·rw [if_neg h2] at e2; exact absurd rfl (hnb _ _ _ _ h2 e2)
  ·rw [if_neg h1] at e1
   by_cases h2 : a2 = a ∧ n2 = n
   ·rw [if_pos h2] at e2; cases e2; exact absurd rfl (hnb _ _ _ _ h1 e1)
   ·rw [if_neg h2] at e2; exact inj _ _ _ _ _ _ _ e1 e2
 ·rw [hup] at e'
  by_cases hc : a' = a ∧ n' = n
  ·rw [hc.1, hc.2]; exact dom _ _ _ e
  ·rw [if_neg hc] at e'; exact dom _ _ _ e'
 ·rcases him k hk' with h1 | h1
  ·obtain ⟨c', e', i1, i2⟩ := imm k h1
   exact ⟨c', e', by rw [kI k h1 (Heap.lt_of_get i1)]; exact i1, i2⟩
  ·exact h1
theorem PortsAt.put (hp : PortsAt h I pp mp qs T) {h' : Heap} {I' : Set'} {a n b : Nat} {x x' : Pt} (e : T a n = some (b, x)) (hI : ∀ b, I b → I' b) (hk : ∀ k, k < h.n → k ≠ b → h'.get k = h.get k) (hx : PortAt h' I' b x') (him : ∀ k, I' k → I k ∨ ∃ c e, h'.get k = some (.cells c e) ∧ e ≠ 82 ∧ e ≠ 109) : PortsAt h' I' pp mp qs (updT T a n (some (b, x'))) := hp.put2 e hI (fun k _ => hk k) hx him
theorem cv5_3 {M : MP} {R W : Set'} {tm : Tm} {h : Heap} {K : V → Heap → Prop} (x : Operand) : LOp M R W tm h (.convert 5 3 x) K = onO (evV tm x) fun a => onO (convV M.P 5 3 a h) fun r => allB R r.2 ∧ K r.1 h := by
 apply LOp_convert; decide
theorem c5_3 (h : Heap) (n : Int) : convV Try.prog 5 3 (.int .u8 n) h = some (.int .i64 (IntKind.i64.wrap n), []) := by simp only [convV, Try.underlying5, Try.underlying3]
def Byt (l : List V) : Prop := ∀ v ∈ l, ∃ n : Int, v = .int .u8 n ∧ 0 ≤ n ∧ n ≤ 255
theorem allOne_byt : ∀ {l : List V}, Byt l → allOne l = true
 | [], _ => rfl
 | v :: l, h => by
  obtain ⟨n, rfl, _⟩ := h v (by simp)
  have := allOne_byt (l := l) fun v hv => h v (by simp [hv])
  simp only [allOne, V.one, this]
def homeP : List V → Option Nat
 | .int .u8 n :: _ => if n < 8 then some n.toNat else none
 | _ => none
def homeV (l : List V) : V := match homeP l with
 | some a => .tuple [.int .i64 (a : Int), .bool true]
 | none => .tuple [.int .i64 0, .bool false]
theorem home_ok {S : Set'} {v : V} {l : List V} (hv : LR h S v l) (hb : Byt l) (hR : ∀ b, R b) : SF Try.prog 16 [v] h R W fun r h' => r = homeV l ∧ h' = h := by
 have hlen := hv.lenV Try.underlying36
 refine SF.go hm Try.func16 ir16_eq ?_
 cases l with
 | nil =>
  simp -implicitDefEqProofs (disch := (first | omega | fail)) only [go_sem, seval, ↓reduceIte, reduceCtorEq, ir16, ↓hlen, undefV]
  rfl
 | cons x l =>
  obtain ⟨b, o, cap, ex, c, ce, rfl, hS, hbk, hs, hg⟩ := hv.get (i := 0) (by simp)
  obtain ⟨n, rfl, n0, n1⟩ := hb x (by simp)
  have hRb := hR b
  simp only [List.getD_cons_zero, Nat.add_zero] at hg
  have hz : ¬ ((V.int .u8 n :: l).length : Int) = 0 := by simp only [List.length_cons]; omega
  have hlt : (0 : Int) < ((V.int .u8 n :: l).length : Int) := by simp only [List.length_cons]; omega
  have hs' : o < c.size := by simp only [List.length_cons] at hs; omega
  have hw : IntKind.i64.wrap n = n := IntWalk.i64_in _ (by omega)
  generalize (V.int .u8 n :: l).length = m at *
  by_cases h8 : 8 ≤ n
  ·simp -implicitDefEqProofs (disch := (first | omega | fail)) only [go_sem, seval, ↓reduceIte, reduceCtorEq, ir16, ↓hlen, hlt, hRb, hbk, hg]
   rw [homeV, show homeP (V.int .u8 n :: l) = if n < 8 then some n.toNat else none from rfl, if_neg (by omega)]
  ·simp -implicitDefEqProofs (disch := (first | omega | fail)) only [go_sem, seval, ↓reduceIte, reduceCtorEq, ir16, ↓hlen, hlt, hRb, hbk, hg, ↓cv5_3, c5_3, hw]
   rw [homeV, show homeP (V.int .u8 n :: l) = if n < 8 then some n.toNat else none from rfl, if_pos (by omega)]
   simp only []
   rw [show ((n.toNat : Nat) : Int) = n by omega]
theorem quota_ok (hp : PortsAt h I pp mp qs T) (hR : ∀ b, R b) (a : Int) : SF Try.prog 54 [.ptr (some (pp, 0)), .int .i64 a] h R W fun v h' => v = .int .i64 (if okA qs a then ((qs.getD a.toNat 0 : Nat) : Int) else 0) ∧ h' = h := by
 obtain ⟨c, c1, c2, c3, c4⟩ := hp.c
 refine SF.go hm Try.func54 ir54_eq ?_
 simp -implicitDefEqProofs (disch := (first | omega | fail)) only [go_sem, seval, ↓reduceIte, reduceCtorEq, ir54]
 refine GCall.of (account_ok hp (.inr (hR _)) a) ?_
 rintro v h1 ⟨rfl, rfl⟩
 by_cases ha : okA qs a
 ·simp only [if_pos ha]
  obtain ⟨i, rfl⟩ := Int.eq_ofNat_of_zero_le ha.1
  have hi : i < qs.length := by have := ha.2; omega
  obtain ⟨b, o, cap, ex, ck, ce, e, hS, hbk, hs, hg⟩ := c4.get (i := i) (by simpa using hi)
  have hRb := hR b
  have hRp := hR pp
  rw [List.length_map] at hs e
  have hg' : ck.get (o + i) = .int .i64 ((qs.getD i 0 : Nat) : Int) := by rw [hg]; simp [List.getD, hi]
  simp -implicitDefEqProofs (disch := (first | omega | fail)) only [go_sem, seval, ↓reduceIte, reduceCtorEq, c1, c2, e, hRp, hRb, hbk, hg']
 ·simp only [if_neg ha]
  simp -implicitDefEqProofs (disch := (first | omega | fail)) only [go_sem, seval, ↓reduceIte, reduceCtorEq]
theorem len_ok (hp : PortsAt h I pp mp qs T) (hR : ∀ b, R b) (a n : Int) : SF Try.prog 13 [.ptr (some (pp, 0)), .int .i64 a, .int .i64 n] h R W fun v h' => v = .int .i64 (((lookT T a n).map fun y => (y.2.ring.length : Int)).getD 0) ∧ h' = h := by
 refine SF.go hm Try.func13 ir13_eq ?_
 simp -implicitDefEqProofs (disch := (first | omega | fail)) only [go_sem, seval, ↓reduceIte, reduceCtorEq, ir13]
 refine GCall.of (get_ok hp (.inr (hR _)) (.inr (hR _)) a n) ?_
 rintro v h1 ⟨rfl, rfl⟩
 rcases getV_cases hp a n with ⟨b, x, hl, he, hg⟩ | ⟨hl, he, hg⟩
 ·rw [hg, hl]
  obtain ⟨c, f, c1, c2, c3, c4, c5, c6, c7, c8, _⟩ := (hp.pt _ _ _ _ (lookT_some hl).2.2).c
  have hRb := hR b
  simp -implicitDefEqProofs (disch := (first | omega | fail)) only [go_sem, seval, ↓reduceIte, reduceCtorEq, c1, c2, c7, hRb]
  rfl
 ·rw [hg, hl]
  simp -implicitDefEqProofs (disch := (first | omega | fail)) only [go_sem, seval, ↓reduceIte, reduceCtorEq]
  rfl
theorem lost_ok (hp : PortsAt h I pp mp qs T) (hR : ∀ b, R b) (a n : Int) : SF Try.prog 26 [.ptr (some (pp, 0)), .int .i64 a, .int .i64 n] h R W fun v h' => v = .int .i64 (((lookT T a n).map fun y => y.2.lost).getD 0) ∧ h' = h := by
 refine SF.go hm Try.func26 ir26_eq ?_
 simp -implicitDefEqProofs (disch := (first | omega | fail)) only [go_sem, seval, ↓reduceIte, reduceCtorEq, ir26]
 refine GCall.of (get_ok hp (.inr (hR _)) (.inr (hR _)) a n) ?_
 rintro v h1 ⟨rfl, rfl⟩
 rcases getV_cases hp a n with ⟨b, x, hl, he, hg⟩ | ⟨hl, he, hg⟩
 ·rw [hg, hl]
  obtain ⟨c, f, c1, c2, c3, c4, c5, c6, c7, c8, _⟩ := (hp.pt _ _ _ _ (lookT_some hl).2.2).c
  have hRb := hR b
  simp -implicitDefEqProofs (disch := (first | omega | fail)) only [go_sem, seval, ↓reduceIte, reduceCtorEq, c1, c2, c8, hRb]
  rfl
 ·rw [hg, hl]
  simp -implicitDefEqProofs (disch := (first | omega | fail)) only [go_sem, seval, ↓reduceIte, reduceCtorEq]
  rfl
end Go.Proofs.Ytmimialblhlklaa
