/- Flat memories: Load, Store. -/
import Derived.Test.YtmkdbninmimndaaM1
set_option linter.unusedVariables false
set_option maxRecDepth 100000
namespace Go.Proofs.Ytmkdbninmimndaa
open Go Go.Vm
theorem getB_int {L : List V} {a : Nat} (hb : ∀ i, i < L.length → ∃ n : Int, L[i]? = some (.int .u8 n) ∧ 0 ≤ n ∧ n ≤ 255) : ∃ n : Int, getB L a = .int .u8 n ∧ 0 ≤ n ∧ n ≤ 255 := by
  unfold getB
  by_cases h : a < L.length
  · obtain ⟨n, e, hn⟩ := hb a h
    rw [if_pos h, List.getD_eq_getElem?_getD, e]
    exact ⟨n, rfl, hn⟩
  · rw [if_neg h]; exact ⟨0, rfl, by omega, by omega⟩
def gets (L : List V) (a k : Nat) : List V := (List.range k).map fun i => getB L (ad a i)
theorem gets_succ (L : List V) (a k : Nat) : gets L a (k + 1) = gets L a k ++ [getB L (ad a k)] := by simp [gets, List.range_succ]
theorem gets_len (L : List V) (a k : Nat) : (gets L a k).length = k := by simp [gets]
theorem gets_at {L : List V} {a k i : Nat} (h : i < k) : (gets L a k)[i]? = some (getB L (ad a i)) := by simp [gets, h]
attribute [irreducible] gets
set_option maxHeartbeats 1000000 in
theorem load_ok {h : Heap} {R W : Set'} {fp n0 : Nat} {L Q : List V} {q : Nat → Int} (hf : FlatAt h fp n0 L Q q) (hR : ∀ b, R b) {a n : Nat} (hn : n ≤ 65536) (r : Int) : SF Try.prog 17 [.iface 32 (.ptr (some (fp, 0))), .int .u32 a, .int .i64 n, .int .i64 r] h R W fun v h' =>
    (∃ x, fst (fun x => mayB q L.length x r) a 0 n = some x ∧ v = .tuple [.slice none 0 0 true, .int .u32 x, .bool false] ∧ h' = h) ∨
    (fst (fun x => mayB q L.length x r) a 0 n = none ∧ ∃ s, v = .tuple [s, .int .u32 0, .bool true] ∧ Own h.n h' s (gets L a n) 5 ∧ ∀ b, b < h.n → h'.get b = h.get b) := by
  refine SF.go hm Try.func17 ir17_eq ?_
  simp -implicitDefEqProofs (disch := (first | omega | fail)) only [go_sem, Nat.reduceAdd, Nat.reduceSub, Nat.reduceLT, Nat.reduceMod, Nat.reduceDiv, ↓reduceIte, reduceCtorEq, ir17]
  refine GCall.of (first_ok hf (fun b => .inr (hR b)) hn r) ?_
  rintro v g ⟨rfl, rfl⟩
  cases hF : fst (fun x => mayB q L.length x r) a 0 n with
  | some x =>
    simp -implicitDefEqProofs (disch := (first | omega | fail)) only [go_sem, Nat.reduceAdd, Nat.reduceSub, Nat.reduceLT, Nat.reduceMod, Nat.reduceDiv, ↓reduceIte, reduceCtorEq, fstT]
    exact .inl ⟨x, rfl, rfl⟩
  | none =>
    simp -implicitDefEqProofs (disch := (first | omega | fail)) only [go_sem, Nat.reduceAdd, Nat.reduceSub, Nat.reduceLT, Nat.reduceMod, Nat.reduceDiv, ↓reduceIte, reduceCtorEq, fstT]
    refine GLoop.inv hm (fun k f h2 => f.mks = [] ∧ f.tm.n = 50 ∧ f.tm.get 0 = some (.iface 32 (.ptr (some (fp, 0)))) ∧ f.tm.get 1 = some (.int .u32 a) ∧ f.tm.get 35 = some (.int .i64 n) ∧ ∃ (i : Nat) (s : V), i + k = n ∧ f.tm.get 36 = some (.int .i64 i) ∧ f.tm.get 13 = some s ∧ g.n ≤ h2.n ∧ Own g.n h2 s (gets L a i) 5 ∧ ∀ b, b < g.n → h2.get b = g.get b) n ?_ ?_
    · exact ⟨rfl, rfl, by simp -implicitDefEqProofs (disch := (first | omega | fail)) only [go_sem, ↓reduceIte], by simp -implicitDefEqProofs (disch := (first | omega | fail)) only [go_sem, Nat.reduceDiv, ↓reduceIte, reduceCtorEq], by simp -implicitDefEqProofs (disch := (first | omega | fail)) only [go_sem, Nat.reduceSub, Nat.reduceMod, Nat.reduceDiv, ↓reduceIte, reduceCtorEq], 0, _, by omega, by simp -implicitDefEqProofs (disch := (first | omega | fail)) only [go_sem, Nat.reduceSub, Nat.reduceMod, Nat.reduceDiv, ↓reduceIte, reduceCtorEq]; rfl, by simp -implicitDefEqProofs (disch := (first | omega | fail)) only [go_sem, Nat.reduceSub, Nat.reduceMod, Nat.reduceDiv, ↓reduceIte, reduceCtorEq], by omega, .inl ⟨by unfold gets; rfl, .inl rfl⟩, fun _ _ => rfl⟩
    rintro k ⟨⟨n', tr⟩, mks⟩ h2 ⟨hmk, hn', t0, t1, t35, i, s, hi, t36, t13, hgn, ho, hold⟩
    simp only [Tm.get_mk] at hmk hn' t0 t1 t35 t36 t13
    subst hmk hn'
    by_cases hin : i < n
    · have hf2 := hf.old hold
      have hl3 := gets_len L a i
      obtain ⟨x, hx, hx1, hx2⟩ := getB_int (a := ad a i) hf.byt
      simp -implicitDefEqProofs (disch := (first | omega | fail)) only [go_sem, Nat.reduceAdd, Nat.reduceLT, Nat.reduceEqDiff, ↓reduceIte, reduceCtorEq, ir17_l0, t0, t1, t13, t35, t36, ↓cvD, cD, ↓ad_eq, mv_get]
      refine GCall.of (get_ok hf2 (fun b => .inr (hR b)) (ad_lt a i)) ?_
      rintro v g1 ⟨rfl, rfl⟩
      rw [hx]
      obtain ⟨v', h', r', w', hap, o2, m2, k2, hw2⟩ := app_own (h := g1.push (.cells (Blk.of [.int .u8 x]) 5)) (x := .slice (some (g1.n, 0)) 1 1 true) (news := [.int .u8 x]) (bytes := 1) (ho.old fun b hb => by simp -implicitDefEqProofs (disch := (first | omega | fail)) only [go_sem]) (by simp; omega) rfl (first_one (e := 5) (by simp -implicitDefEqProofs (disch := (first | omega | fail)) only [go_sem])) rfl (by simp only [List.length_cons, List.length_nil]; omega) (by simp only [List.length_cons, List.length_nil]; omega)
      have hr0 : allB (fun b => g.n ≤ b ∨ R b) r' := allB_of fun b _ => .inr (hR b)
      have hw0 : allB (fun b => g.n ≤ b ∨ W b) w' := allB_of fun b hb => .inl (hw2 b hb)
      simp -implicitDefEqProofs (disch := (first | omega | fail)) only [go_sem, Nat.reduceAdd, Nat.reduceLT, Nat.reduceEqDiff, ↓reduceIte, reduceCtorEq, t0, t1, t35, t36, appendV_of ap_23, hap, hr0, hw0]
      refine ⟨k - 1, by omega, i + 1, _, by omega, rfl, rfl, by simp at m2; omega, ?_, fun b hb => ?_⟩
      · rw [gets_succ, hx]; exact o2
      · rw [k2 b hb, ← hold b hb]; simp -implicitDefEqProofs (disch := (first | omega | fail)) only [go_sem]
    · obtain rfl : i = n := by omega
      simp -implicitDefEqProofs (disch := (first | omega | fail)) only [go_sem, Nat.reduceAdd, Nat.reduceLT, Nat.reduceEqDiff, ↓reduceIte, ir17_l0, t13, t35, t36]
      exact .inr ⟨s, rfl, ho, hold⟩
def fblk (h : Heap) (fp : Nat) : Nat := match h.get fp with
  | some (.cells c _) => match c.get 0 with
    | .slice (some (b, _)) _ _ _ => b
    | _ => 0
  | _ => 0
theorem FlatAt.fblk_lt {h : Heap} {fp n0 : Nat} {L Q : List V} {q : Nat → Int} (hf : FlatAt h fp n0 L Q q) : fblk h fp < h.n := by
  obtain ⟨c, vb, vr, c1, cs, cr, c0, c1', ob, or'⟩ := hf.c
  have := Heap.lt_of_get c1
  unfold fblk
  rw [c1]
  simp only [c0]
  rcases ob with ⟨h0, rfl | ⟨b, c, rfl, _, hb, _⟩⟩ | ⟨b, x, c, h0, rfl, _, hb, hs, _, hg⟩
  · simp only []; omega
  · exact Heap.lt_of_get hb
  · exact Heap.lt_of_get hb
def puts (L : List V) (a : Nat) (l : List V) : Nat → List V
  | 0 => L
  | k + 1 => (puts L a l k).set (ad a k) (l.getD k undefV)
theorem set_ok2 {h : Heap} {R : Set'} {fp n0 : Nat} {L Q : List V} {q : Nat → Int} (hf : FlatAt h fp n0 L Q q) (hR : ∀ b, R b) {a : Nat} (ha : a < 4294967296) {n : Int} (hn : 0 ≤ n ∧ n ≤ 255) : SF Try.prog 23 [.ptr (some (fp, 0)), .int .u32 a, .int .u8 n] h R (fun b => b = fblk h fp ∧ n0 ≤ b) fun v h' => FlatAt h' fp n0 (L.set a (.int .u8 n)) Q q ∧ h'.get fp = h.get fp ∧ h'.n = h.n := by
  obtain ⟨c, vb, vr, c1, cs, cr, c0, c1', ob, or'⟩ := hf.c
  have hlen := ob.lv.len23
  have hll := hf.len
  have hfe := hf.few
  have h64a : IntKind.u64.wrap (a : Int) = a := IntWalk.u64_in _ (by omega)
  have h64l : IntKind.u64.wrap (L.length : Int) = L.length := IntWalk.u64_in _ (by omega)
  have hR1 := hR fp
  refine SF.go hm Try.func23 ir23_eq ?_
  by_cases hal : a < L.length
  · obtain ⟨b, x, cq, rfl, hb0, hb, hbs, hbr, hbg, hgs⟩ := ob.get hal
    have hRb := hR b
    have hWb : b = fblk h fp := by unfold fblk; rw [c1]; simp only [c0]
    have hWb2 : n0 ≤ b := hb0
    simp -implicitDefEqProofs (disch := (first | omega | fail)) only [go_sem, Nat.reduceAdd, Nat.reduceSub, Nat.reduceLT, Nat.reduceMod, Nat.reduceDiv, ↓reduceIte, reduceCtorEq, ir23, undefV, ↓cvA, ↓cvB, cA, cB, c1, cs, c0, ↓hlen, h64a, h64l, hb, hbs, hbr, hR1, ← hWb, hWb2]
    have hlb := Heap.lt_of_get hb
    have hfb : fp ≠ b := fun e => by rw [e, hb] at c1; simp at c1
    refine ⟨⟨⟨c, _, vr, by rw [w_set_ne hlb hfb]; exact c1, cs, cr, c0, c1', .inr ⟨b, x, _, fun e => by have := congrArg List.length e; simp at this; rw [this] at hal; simp at hal, by rw [List.length_set], hb0, w_set_eq hlb rfl _, by rw [Blk.size_set, List.length_set]; exact hbs, by rw [Blk.ro_set]; exact hbr, ?_⟩, or'.keep fun y cy e => ?_⟩, by rw [List.length_set]; exact hll, hfe, hf.int, fun i hi => ?_⟩, by rw [w_set_ne hlb hfb]; exact c1⟩
    · rw [List.length_set, set_gets, hgs]
    · have : y ≠ b := fun e2 => by rw [e2, hb] at e; simp at e
      rw [w_set_ne hlb this]; exact e
    · rw [List.length_set] at hi
      rw [List.getElem?_set]
      by_cases e : a = i
      · subst e; rw [if_pos rfl, if_pos hal]; exact ⟨n, rfl, hn⟩
      · rw [if_neg e]; exact hf.byt i hi
  · simp -implicitDefEqProofs (disch := (first | omega | fail)) only [go_sem, Nat.reduceAdd, Nat.reduceSub, Nat.reduceLT, Nat.reduceMod, Nat.reduceDiv, ↓reduceIte, reduceCtorEq, ir23, ↓cvA, ↓cvB, cA, cB, c1, cs, c0, ↓hlen, h64a, h64l, hR1]
    rw [List.set_eq_of_length_le (by omega)]; exact hf
set_option maxHeartbeats 1000000 in
theorem store_ok {h : Heap} {R : Set'} {fp n0 : Nat} {L Q l : List V} {q : Nat → Int} {v : V} (hf : FlatAt h fp n0 L Q q) (hR : ∀ b, R b) {a : Nat} (hn : l.length ≤ 65536) (hbyt : Byt l) (hd : ∀ g, (∀ b, b ≠ fblk h fp → g.get b = h.get b) → LV g v l) : SF Try.prog 19 [.iface 32 (.ptr (some (fp, 0))), .int .u32 a, v] h R (fun b => b = fblk h fp ∧ n0 ≤ b) fun r h' =>
    (∃ x, fst (fun x => mayB q L.length x 2) a 0 l.length = some x ∧ r = .tuple [.int .u32 x, .bool false] ∧ h' = h) ∨
    (fst (fun x => mayB q L.length x 2) a 0 l.length = none ∧ r = .tuple [.int .u32 0, .bool true] ∧ FlatAt h' fp n0 (puts L a l l.length) Q q ∧ h'.n = h.n ∧ h'.get fp = h.get fp ∧ ∀ b, b ≠ fblk h fp → h'.get b = h.get b) := by
  have hv := hd h fun _ _ => rfl
  have hlen := hv.len23
  refine SF.go hm Try.func19 ir19_eq ?_
  simp -implicitDefEqProofs (disch := (first | omega | fail)) only [go_sem, Nat.reduceAdd, Nat.reduceSub, Nat.reduceLT, Nat.reduceMod, Nat.reduceDiv, ↓reduceIte, reduceCtorEq, ir19, ↓hlen]
  refine GCall.of (first_ok hf (fun b => .inr (hR b)) hn 2) ?_
  rintro v1 g ⟨rfl, rfl⟩
  cases hF : fst (fun x => mayB q L.length x 2) a 0 l.length with
  | some x =>
    simp -implicitDefEqProofs (disch := (first | omega | fail)) only [go_sem, Nat.reduceAdd, Nat.reduceSub, Nat.reduceLT, Nat.reduceMod, Nat.reduceDiv, ↓reduceIte, reduceCtorEq, fstT]
    exact .inl ⟨x, rfl, rfl⟩
  | none =>
    simp -implicitDefEqProofs (disch := (first | omega | fail)) only [go_sem, Nat.reduceAdd, Nat.reduceSub, Nat.reduceLT, Nat.reduceMod, Nat.reduceDiv, ↓reduceIte, reduceCtorEq, fstT, ↓hlen]
    refine GLoop.inv hm (fun k f h2 => f.mks = [] ∧ f.tm.n = 44 ∧ f.tm.get 0 = some (.iface 32 (.ptr (some (fp, 0)))) ∧ f.tm.get 1 = some (.int .u32 a) ∧ f.tm.get 29 = some v ∧ f.tm.get 30 = some (.int .i64 l.length) ∧ ∃ i : Nat, i + k = l.length ∧ f.tm.get 31 = some (.int .i64 i) ∧ h2.n = g.n ∧ FlatAt h2 fp n0 (puts L a l i) Q q ∧ h2.get fp = g.get fp ∧ ∀ b, b ≠ fblk g fp → h2.get b = g.get b) l.length ?_ ?_
    · exact ⟨rfl, rfl, by simp -implicitDefEqProofs (disch := (first | omega | fail)) only [go_sem, ↓reduceIte], by simp -implicitDefEqProofs (disch := (first | omega | fail)) only [go_sem, Nat.reduceDiv, ↓reduceIte, reduceCtorEq], by simp -implicitDefEqProofs (disch := (first | omega | fail)) only [go_sem, Nat.reduceSub, Nat.reduceMod, Nat.reduceDiv, ↓reduceIte, reduceCtorEq], by simp -implicitDefEqProofs (disch := (first | omega | fail)) only [go_sem, Nat.reduceSub, Nat.reduceMod, Nat.reduceDiv, ↓reduceIte, reduceCtorEq], 0, by omega, by simp -implicitDefEqProofs (disch := (first | omega | fail)) only [go_sem, Nat.reduceMod, Nat.reduceDiv, ↓reduceIte, reduceCtorEq]; rfl, rfl, hf, rfl, fun _ _ => rfl⟩
    rintro k ⟨⟨n', tr⟩, mks⟩ h2 ⟨hmk, hn', t0, t1, t29, t30, i, hi, t31, hgn, hf2, hfp, hold⟩
    simp only [Tm.get_mk] at hmk hn' t0 t1 t29 t30 t31
    subst hmk hn'
    by_cases hin : i < l.length
    · obtain ⟨b, o, cap, ex, c, ce, rfl, hb, hbs, hbg⟩ := (hd h2 hold).get hin
      obtain ⟨x, hx, hx1⟩ := hbyt l[i] (List.getElem_mem hin)
      have hgd : l.getD i undefV = .int .u8 x := by rw [List.getD_eq_getElem?_getD, List.getElem?_eq_getElem hin, hx]; rfl
      rw [hgd] at hbg
      have hRb := hR b
      have hfk : fblk h2 fp = fblk g fp := by unfold fblk; rw [hfp]
      simp -implicitDefEqProofs (disch := (first | omega | fail)) only [go_sem, Nat.reduceAdd, Nat.reduceLT, Nat.reduceEqDiff, ↓reduceIte, reduceCtorEq, ir19_l0, t0, t1, t29, t30, t31, hb, hbg, hRb, ↓cvD, cD, ↓ad_eq, mv_set]
      refine GCall.of (((set_ok2 (R := fun b => g.n ≤ b ∨ R b) hf2 (fun b => .inr (hR b)) (ad_lt a i) hx1).kept).foot (fun _ h => h) (fun b h => .inr ⟨h.1.trans hfk, h.2⟩)) ?_
      rintro v2 g2 ⟨⟨hf3, hfp3, hn3⟩, vf3⟩
      simp -implicitDefEqProofs (disch := (first | omega | fail)) only [go_sem, Nat.reduceAdd, Nat.reduceLT, Nat.reduceEqDiff, ↓reduceIte, reduceCtorEq, t0, t1, t29, t30, t31]
      refine ⟨k - 1, by omega, i + 1, by omega, rfl, by omega, ?_, hfp3.trans hfp, fun b hb => ?_⟩
      · rw [puts, hgd]; exact hf3
      · by_cases hbl : b < h2.n
        · rw [vf3.get b hbl (fun e => hb (e.1.trans hfk)), hold b hb]
        · have h1 : g2.get b = none := by
            cases e : g2.get b with
            | none => rfl
            | some o => have := Heap.lt_of_get e; omega
          have h2 : g.get b = none := by
            cases e : g.get b with
            | none => rfl
            | some o => have := Heap.lt_of_get e; omega
          rw [h1, h2]
    · obtain rfl : i = l.length := by omega
      simp -implicitDefEqProofs (disch := (first | omega | fail)) only [go_sem, Nat.reduceAdd, Nat.reduceLT, Nat.reduceEqDiff, ↓reduceIte, ir19_l0, t30, t31]
      exact .inr ⟨hf2, hgn, hfp, hold⟩
end Go.Proofs.Ytmkdbninmimndaa
