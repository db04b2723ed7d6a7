/- Flat memories: May, Get, Set, Bytes, Clone. -/
import Derived.Test.YtmkdbninmimndaaC1
set_option linter.unusedVariables false
set_option maxRecDepth 100000
namespace Go.Proofs.Ytmkdbninmimndaa
open Go Go.Vm
theorem cvA {M : MP} {R W : Set'} {tm : Tm} {h : Heap} {K : V → Heap → Prop} (x : Operand) : LOp M R W tm h (.convert 25 85 x) K = onO (evV tm x) fun a => onO (convV M.P 25 85 a h) fun r => allB R r.2 ∧ K r.1 h := by
  apply LOp_convert; decide
theorem cvB {M : MP} {R W : Set'} {tm : Tm} {h : Heap} {K : V → Heap → Prop} (x : Operand) : LOp M R W tm h (.convert 3 85 x) K = onO (evV tm x) fun a => onO (convV M.P 3 85 a h) fun r => allB R r.2 ∧ K r.1 h := by
  apply LOp_convert; decide
theorem cvC {M : MP} {R W : Set'} {tm : Tm} {h : Heap} {K : V → Heap → Prop} (x : Operand) : LOp M R W tm h (.convert 25 3 x) K = onO (evV tm x) fun a => onO (convV M.P 25 3 a h) fun r => allB R r.2 ∧ K r.1 h := by
  apply LOp_convert; decide
theorem cvSD {P : Program} {tm : Tm} {h : Heap} {K : V → Heap → Set' → Set' → Prop} (x : Operand) : LOpD P tm h (.convert 23 9 x) K = onO (evV tm x) fun a => onO (convV P 23 9 a h) fun r => K r.1 h (fun x => x ∈ r.2) (fun x => x ∈ ([] : List Nat)) := by
  apply LOpD_convert; decide
theorem cA (h : Heap) (n : Int) : convV Try.prog 25 85 (.int .u32 n) h = some (.int .u64 (IntKind.u64.wrap n), []) := by simp only [convV, Try.underlying25, Try.underlying85]
theorem cB (h : Heap) (n : Int) : convV Try.prog 3 85 (.int .i64 n) h = some (.int .u64 (IntKind.u64.wrap n), []) := by simp only [convV, Try.underlying3, Try.underlying85]
theorem cC (h : Heap) (n : Int) : convV Try.prog 25 3 (.int .u32 n) h = some (.int .i64 (IntKind.i64.wrap n), []) := by simp only [convV, Try.underlying25, Try.underlying3]
def andI (a b : Int) : Int := IntKind.i64.wrap ((BitVec.ofInt 64 a &&& BitVec.ofInt 64 b).toNat : Int)
theorem and_eq (a b : Int) : intBin .and .i64 a b = some (.int .i64 (andI a b)) := rfl
structure FlatAt (h : Heap) (fp n0 : Nat) (L Q : List V) (q : Nat → Int) : Prop where
  c : ∃ c vb vr, h.get fp = some (.cells c 80) ∧ c.size = 2 ∧ c.ro = false ∧ c.get 0 = vb ∧ c.get 1 = vr ∧ Own n0 h vb L 5 ∧ Own n0 h vr Q 3
  len : L.length = Q.length * 256
  few : Q.length ≤ 32
  int : ∀ i, i < Q.length → Q[i]? = some (.int .i64 (q i))
  byt : ∀ i, i < L.length → ∃ n : Int, L[i]? = some (.int .u8 n) ∧ 0 ≤ n ∧ n ≤ 255
theorem FlatAt.old {h h' : Heap} {fp n0 : Nat} {L Q : List V} {q : Nat → Int} (hf : FlatAt h fp n0 L Q q) (hk : ∀ b, b < h.n → h'.get b = h.get b) : FlatAt h' fp n0 L Q q := by
  obtain ⟨⟨c, vb, vr, c1, c2, c3, c4, c5, c6, c7⟩, h1, h2, h3, h4⟩ := hf
  exact ⟨⟨c, vb, vr, by rw [hk _ (Heap.lt_of_get c1)]; exact c1, c2, c3, c4, c5, c6.old hk, c7.old hk⟩, h1, h2, h3, h4⟩
theorem Own.get {n0 : Nat} {h : Heap} {v : V} {l : List V} {e : TypeId} (ho : Own n0 h v l e) {i : Nat} (hi : i < l.length) : ∃ b x c, v = .slice (some (b, 0)) l.length l.length x ∧ n0 ≤ b ∧ h.get b = some (.cells c e) ∧ c.size = l.length ∧ c.ro = false ∧ c.get i = l.getD i undefV ∧ c.gets 0 l.length = l := by
  rcases ho with ⟨rfl, _⟩ | ⟨b, x, c, h0, rfl, h1, hb, hs, hr, hg⟩
  · simp at hi
  · refine ⟨b, x, c, rfl, h1, hb, hs, hr, ?_, hg⟩
    have := Blk.gets_get c l.length 0 i hi
    rw [hg, Nat.zero_add] at this
    rw [List.getD_eq_getElem?_getD, this]; rfl
theorem Own.shape {n0 : Nat} {h : Heap} {v : V} {l : List V} {e : TypeId} (ho : Own n0 h v l e) : ∃ p n c x, v = .slice p n c x := by
  rcases ho with ⟨_, rfl | ⟨_, _, rfl, _⟩⟩ | ⟨_, _, _, _, rfl, _⟩ <;> exact ⟨_, _, _, _, rfl⟩
theorem Own.mono {n0 n1 : Nat} {h : Heap} {v : V} {l : List V} {e : TypeId} (ho : Own n1 h v l e) (hn : n0 ≤ n1) : Own n0 h v l e := by
  rcases ho with ⟨rfl, rfl | ⟨b, c, rfl, h1, hb, hr⟩⟩ | ⟨b, x, c, h0, rfl, h1, hb, hs⟩
  · exact .inl ⟨rfl, .inl rfl⟩
  · exact .inl ⟨rfl, .inr ⟨b, c, rfl, by omega, hb, hr⟩⟩
  · exact .inr ⟨b, x, c, h0, rfl, by omega, hb, hs⟩
theorem Own.keep {n0 : Nat} {h h' : Heap} {v : V} {l : List V} {e : TypeId} (ho : Own n0 h v l e) (hk : ∀ b c, h.get b = some (.cells c e) → h'.get b = some (.cells c e)) : Own n0 h' v l e := by
  rcases ho with ⟨rfl, rfl | ⟨b, c, rfl, h1, hb, hr⟩⟩ | ⟨b, x, c, h0, rfl, h1, hb, hs⟩
  · exact .inl ⟨rfl, .inl rfl⟩
  · exact .inl ⟨rfl, .inr ⟨b, c, rfl, h1, hk _ _ hb, hr⟩⟩
  · exact .inr ⟨b, x, c, h0, rfl, h1, hk _ _ hb, hs⟩
theorem set_gets (c : Blk) (a : Nat) (v : V) (n : Nat) : (c.set a v).gets 0 n = (c.gets 0 n).set a v := by
  apply List.ext_getElem?
  intro j
  by_cases hj : j < n
  · rw [Blk.gets_get _ _ _ _ hj, Nat.zero_add, Blk.get_set, List.getElem?_set, Blk.length_gets]
    by_cases e : a = j
    · subst e; simp [hj]
    · rw [if_neg (fun h => e h.symm), if_neg e, Blk.gets_get _ _ _ _ hj, Nat.zero_add]
  · rw [List.getElem?_eq_none (by rw [Blk.length_gets]; omega), List.getElem?_eq_none (by rw [List.length_set, Blk.length_gets]; omega)]
def mayB (q : Nat → Int) (n a : Nat) (r : Int) : Bool := decide (1 ≤ r ∧ r ≤ 7 ∧ a < n) && (andI (q (a / 256)) r == r)
theorem may_ok {h : Heap} {R W : Set'} {fp n0 : Nat} {L Q : List V} {q : Nat → Int} (hf : FlatAt h fp n0 L Q q) (hR : ∀ b, R b) {a : Nat} (ha : a < 4294967296) (r : Int) : SF Try.prog 21 [.ptr (some (fp, 0)), .int .u32 a, .int .i64 r] h R W fun v h' => v = .bool (mayB q L.length a r) ∧ h' = h := by
  obtain ⟨c, vb, vr, c1, cs, cr, c0, c1', ob, or'⟩ := hf.c
  have hlen := ob.lv.len23
  have hll := hf.len
  have hfe := hf.few
  have h64a : IntKind.u64.wrap (a : Int) = a := IntWalk.u64_in _ (by omega)
  have h64l : IntKind.u64.wrap (L.length : Int) = L.length := IntWalk.u64_in _ (by omega)
  have hR1 := hR fp
  refine SF.go hm Try.func21 ir21_eq ?_
  unfold mayB
  by_cases r1 : r < 1
  · simp -implicitDefEqProofs (disch := (first | omega | fail)) only [go_sem, seval, ↓reduceIte, reduceCtorEq, ir21, undefV]
    rw [decide_eq_false (by omega)]; rfl
  by_cases r7 : 7 < r
  · simp -implicitDefEqProofs (disch := (first | omega | fail)) only [go_sem, seval, ↓reduceIte, reduceCtorEq, ir21, undefV]
    rw [decide_eq_false (by omega)]; rfl
  by_cases hal : a < L.length
  · have hi : a / 256 < Q.length := by omega
    obtain ⟨b, x, cq, rfl, _, hb, hbs, _, hbg, _⟩ := or'.get hi
    have hqi := hf.int _ hi
    rw [List.getD_eq_getElem?_getD, hqi, Option.getD_some] at hbg
    have hq : IntKind.u32.wrap ((a : Int).tdiv 256) = ((a / 256 : Nat) : Int) := by
      rw [show (a : Int).tdiv 256 = ((a / 256 : Nat) : Int) from rfl]; exact IntWalk.u32_in _ (by omega)
    have hRb := hR b
    simp -implicitDefEqProofs (disch := (first | omega | fail)) only [go_sem, seval, ↓reduceIte, reduceCtorEq, ir21, ↓cvA, ↓cvB, cA, cB, c1, cs, c0, c1', ↓hlen, h64a, h64l, hq, hb, hbs, hbg, ↓and_eq, hR1, hRb]
    rw [decide_eq_true (show 1 ≤ r ∧ r ≤ 7 ∧ a < L.length by omega)]; rfl
  · simp -implicitDefEqProofs (disch := (first | omega | fail)) only [go_sem, seval, ↓reduceIte, reduceCtorEq, ir21, ↓cvA, ↓cvB, cA, cB, c1, cs, c0, ↓hlen, h64a, h64l, hR1]
    rw [decide_eq_false (show ¬ (1 ≤ r ∧ r ≤ 7 ∧ a < L.length) by omega)]; rfl
theorem LV.get {h : Heap} {v : V} {l : List V} (hv : LV h v l) {i : Nat} (hi : i < l.length) : ∃ b o cap ex c ce, v = .slice (some (b, o)) l.length cap ex ∧ h.get b = some (.cells c ce) ∧ o + l.length ≤ c.size ∧ c.get (o + i) = l.getD i undefV := by
  rcases hv with ⟨rfl, _⟩ | ⟨b, o, cap, ex, c, ce, rfl, hb, hs, hg⟩
  · simp at hi
  · refine ⟨b, o, cap, ex, c, ce, rfl, hb, hs, ?_⟩
    have := Blk.gets_get c l.length o i hi
    rw [hg] at this
    rw [List.getD_eq_getElem?_getD, this]; rfl
structure MemAt (h : Heap) (rm : Nat) (vB vr : V) : Prop where
  c : ∃ c, h.get rm = some (.cells c 46) ∧ c.size = 2 ∧ c.get 0 = vB ∧ c.get 1 = vr
def getB (L : List V) (a : Nat) : V := if a < L.length then L.getD a undefV else .int .u8 0
theorem get_ok {h : Heap} {R W : Set'} {fp n0 : Nat} {L Q : List V} {q : Nat → Int} (hf : FlatAt h fp n0 L Q q) (hR : ∀ b, R b) {a : Nat} (ha : a < 4294967296) : SF Try.prog 24 [.ptr (some (fp, 0)), .int .u32 a] h R W fun v h' => v = getB L a ∧ h' = h := by
  obtain ⟨c, vb, vr, c1, cs, cr, c0, c1', ob, or'⟩ := hf.c
  have hlen := ob.lv.len23
  have hll := hf.len
  have hfe := hf.few
  have h64a : IntKind.u64.wrap (a : Int) = a := IntWalk.u64_in _ (by omega)
  have h64l : IntKind.u64.wrap (L.length : Int) = L.length := IntWalk.u64_in _ (by omega)
  have hR1 := hR fp
  refine SF.go hm Try.func24 ir24_eq ?_
  unfold getB
  by_cases hal : a < L.length
  · obtain ⟨b, x, cq, rfl, _, hb, hbs, _, hbg, _⟩ := ob.get hal
    have hRb := hR b
    simp -implicitDefEqProofs (disch := (first | omega | fail)) only [go_sem, seval, ↓reduceIte, reduceCtorEq, ir24, undefV, ↓cvA, ↓cvB, cA, cB, c1, cs, c0, ↓hlen, h64a, h64l, hb, hbs, hbg, hR1, hRb]
    exact (if_pos hal).symm
  · simp -implicitDefEqProofs (disch := (first | omega | fail)) only [go_sem, seval, ↓reduceIte, reduceCtorEq, ir24, undefV, ↓cvA, ↓cvB, cA, cB, c1, cs, c0, ↓hlen, h64a, h64l, hR1]
    exact (if_neg hal).symm
theorem bytes_ok {h : Heap} {R W : Set'} {fp n0 : Nat} {L Q : List V} {q : Nat → Int} (hf : FlatAt h fp n0 L Q q) (hR : ∀ b, R b) : SF Try.prog 14 [.ptr (some (fp, 0))] h R W fun v h' => Own h.n h' v L 5 ∧ ∀ b, b < h.n → h'.get b = h.get b := by
  obtain ⟨c, vb, vr, c1, cs, cr, c0, c1', ob, or'⟩ := hf.c
  have hll := hf.len
  have hfe := hf.few
  have hR1 := hR fp
  refine SF.go hm Try.func14 ir14_eq ?_
  simp -implicitDefEqProofs (disch := (first | omega | fail)) only [go_sem, seval, ↓reduceIte, reduceCtorEq, ir14, c1, cs, c0, hR1]
  refine GCall.of (clone23 ob.lv (by omega) (fun b => .inr (hR b))) ?_
  rintro v h' ⟨h1, h2⟩
  simp -implicitDefEqProofs (disch := (first | omega | fail)) only [go_sem, seval, ↓reduceIte, reduceCtorEq]
  exact ⟨h1, h2⟩
theorem fclone_ok {h : Heap} {R W : Set'} {fp n0 : Nat} {L Q : List V} {q : Nat → Int} (hf : FlatAt h fp n0 L Q q) (hR : ∀ b, R b) : SF Try.prog 20 [.ptr (some (fp, 0))] h R W fun v h' => ∃ fp', v = .ptr (some (fp', 0)) ∧ h.n ≤ fp' ∧ FlatAt h' fp' h.n L Q q ∧ ∀ b, b < h.n → h'.get b = h.get b := by
  obtain ⟨c, vb, vr, c1, cs, cr, c0, c1', ob, or'⟩ := hf.c
  have hll := hf.len
  have hfe := hf.few
  have hR1 := hR fp
  have hlt := Heap.lt_of_get c1
  refine SF.go hm Try.func20 ir20_eq ?_
  simp -implicitDefEqProofs (disch := (first | omega | fail)) only [go_sem, seval, ↓reduceIte, reduceCtorEq, ir20, c1, cs, c0]
  refine GCallD.of (R' := fun _ => True) (W' := fun _ => False) (((clone23 (R := fun _ => True) (W := fun _ => False) ob.lv (by omega) (fun b => trivial)).kept).foot (fun _ h => h) (fun _ h => h)) ?_
  rintro v1 h1 ⟨⟨o1, k1⟩, vf1⟩
  have m1 := vf1.n
  have c1b := (k1 _ hlt).trans c1
  simp -implicitDefEqProofs (disch := (first | omega | fail)) only [go_sem, seval, ↓reduceIte, reduceCtorEq, c1b, cs, c1']
  refine GCallD.of (R' := fun _ => True) (W' := fun _ => False) (((clone24 (R := fun _ => True) (W := fun _ => False) (or'.old k1).lv (by omega) (fun b => trivial)).kept).foot (fun _ h => h) (fun _ h => h)) ?_
  rintro v2 h2 ⟨⟨o2, k2⟩, vf2⟩
  have m2 := vf2.n
  obtain ⟨p1, l1, k1', x1, rfl⟩ := o1.shape
  obtain ⟨p2, l2, k2', x2, rfl⟩ := o2.shape
  simp -implicitDefEqProofs (disch := (first | omega | fail)) only [go_sem, seval, ↓reduceIte, reduceCtorEq]
  simp only [List.not_mem_nil, or_false, false_or, and_false, false_implies, implies_true, not_false_eq_true, List.mem_cons, and_true, true_and, forall_const]
  refine ⟨fun b hb h => by omega, ⟨fun _ => .inr hR1, fun b _ => .inr (hR b), fun _ => .inr hR1, fun b _ => .inr (hR b)⟩, h2.n, rfl, by omega, ⟨⟨Blk.of [.slice p1 l1 k1' x1, .slice p2 l2 k2' x2], _, _, by simp -implicitDefEqProofs (disch := (first | omega | fail)) only [go_sem, seval], rfl, rfl, rfl, rfl, ?_, ?_⟩, hll, hfe, hf.int, hf.byt⟩, fun b hb => ?_⟩
  · exact (o1.old k2).old fun b hb => by simp -implicitDefEqProofs (disch := (first | omega | fail)) only [go_sem, seval]
  · exact (o2.mono (by omega)).old fun b hb => by simp -implicitDefEqProofs (disch := (first | omega | fail)) only [go_sem, seval]
  · simp -implicitDefEqProofs (disch := (first | omega | fail)) only [go_sem, seval]
    rw [k2 b (by omega), k1 b hb]
end Go.Proofs.Ytmkdbninmimndaa
