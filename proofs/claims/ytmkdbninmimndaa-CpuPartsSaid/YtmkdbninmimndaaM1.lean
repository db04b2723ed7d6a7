/- Flat memories: first, Load, Store, the document's First. -/
import Derived.Test.YtmkdbninmimndaaC4
import Derived.Test.YtmkdbninmimndaaIr2
set_option linter.unusedVariables false
set_option maxRecDepth 100000
namespace Go.Proofs.Ytmkdbninmimndaa
open Go Go.Vm
theorem app_own {n0 : Nat} {h : Heap} {v x : V} {l news : List V} {rs : List Nat} {e bytes : Nat} (ho : Own n0 h v l e) (hn : n0 ≤ h.n) (hx : lenOfV x = some news.length) (hf : firstV h 1 news.length x = some (news, rs)) (h1 : allOne news = true) (hb : (l.length + news.length) * bytes ≤ 140737488355328) (hc : l.length + news.length ≤ 9223372036854775807) : ∃ v' h' r w, appE e 1 bytes v x h = some ⟨v', h', r, w⟩ ∧ Own n0 h' v' (l ++ news) e ∧ h.n ≤ h'.n ∧ (∀ b, b < n0 → h'.get b = h.get b) ∧ ∀ b ∈ w, n0 ≤ b := by
  have hm : news.length = news.length * 1 := by omega
  rcases ho with ⟨rfl, rfl | ⟨b, c, rfl, hb0, hb', hr⟩⟩ | ⟨b, ex, c, h0, rfl, hb0, hb', hs, hr, hg⟩
  · simp only [appE, hx, hf]
    rw [w_beq_t hm, List.nil_append]
    by_cases k0 : news = []
    · subst k0
      exact ⟨_, _, _, _, rfl, .inl ⟨rfl, .inl rfl⟩, Nat.le_refl _, fun _ _ => rfl, fun b hb => by cases hb⟩
    · have hp := List.length_pos_iff.2 k0
      rw [w_ble_f (by omega)]
      simp only [List.length_nil] at hb hc
      simp only [firstV, List.length_nil, Nat.zero_mul, Nat.beq]
      rw [w_ble_t hb, w_ble_t (by omega)]
      refine ⟨_, _, _, _, rfl, .inr ⟨h.n, false, Blk.of news, k0, by rw [Nat.zero_add], hn, by rw [w_push_eq rfl]; rfl, rfl, rfl, gets_all _ rfl⟩, by simp, fun b hb => by rw [w_push_ne (by omega)], fun b hb => by cases hb⟩
  · have hlt := Heap.lt_of_get hb'
    simp only [appE, hx, hf]
    rw [w_beq_t hm, List.nil_append]
    by_cases k0 : news = []
    · subst k0
      rw [w_ble_t (by simp)]
      simp only [appendIn, hb', List.length_nil, allOne, hr]
      rw [w_ble_t (by omega)]
      refine ⟨_, _, _, _, rfl, .inl ⟨rfl, .inr ⟨b, _, rfl, hb0, by rw [w_set_eq hlt rfl], by rw [Blk.ro_putA]; exact hr⟩⟩, by simp, fun b' hb' => by rw [w_set_ne hlt (by omega)], fun b' hb' => by simp at hb'; omega⟩
    · have hp := List.length_pos_iff.2 k0
      rw [w_ble_f (by omega)]
      simp only [List.length_nil] at hb hc
      simp only [firstV, hb']
      rw [w_ble_t (by omega)]
      simp only [Nat.zero_mul, w_gets_zero, List.length_nil, Nat.beq]
      rw [w_ble_t hb, w_ble_t (by omega)]
      refine ⟨_, _, _, _, rfl, .inr ⟨h.n, false, Blk.of news, k0, by rw [Nat.zero_add], hn, by rw [w_push_eq rfl]; rfl, rfl, rfl, gets_all _ rfl⟩, by simp, fun b hb => by rw [w_push_ne (by omega)], fun b hb => by cases hb⟩
  · have hlt := Heap.lt_of_get hb'
    simp only [appE, hx, hf]
    rw [w_beq_t hm]
    by_cases k0 : news = []
    · subst k0
      rw [w_ble_t (by simp)]
      simp only [appendIn, hb', List.length_nil, allOne, hr, List.append_nil, Nat.add_zero]
      rw [w_ble_t (by omega)]
      refine ⟨_, _, _, _, rfl, .inr ⟨b, ex, c.putA (0 + l.length * 1) [], h0, rfl, hb0, by rw [w_set_eq hlt rfl], by rw [Blk.size_putA]; exact hs, by rw [Blk.ro_putA]; exact hr, ?_⟩, by simp, fun b' hb' => by rw [w_set_ne hlt (by omega)], fun b' hb' => by simp at hb'; omega⟩
      rw [Blk.putA_short _ _ (by simp)]
      exact hg
    · have hp := List.length_pos_iff.2 k0
      rw [w_ble_f (by omega)]
      simp only [firstV, hb']
      rw [w_ble_t (by omega)]
      simp only [Nat.mul_one, hg]
      rw [w_beq_t rfl, w_ble_t (by omega), w_ble_t (by omega)]
      have hne : l ++ news ≠ [] := by simp [h0]
      have hll : (l ++ news).length = l.length + news.length := by simp
      cases ex with
      | true =>
        refine ⟨_, _, _, _, rfl, .inr ⟨h.n, false, Blk.of (l ++ news), hne, by rw [hll], hn, by rw [w_push_eq rfl], rfl, rfl, gets_all _ rfl⟩, by simp, fun b' hb' => by rw [w_push_ne (by omega)], fun b hb => by cases hb⟩
      | false =>
        simp only [appendOut, hb', h1, hr]
        rw [w_beq_t (rfl : e = e), w_beq_t (by omega)]
        refine ⟨_, _, _, _, rfl, .inr ⟨h.n, false, Blk.of (l ++ news), hne, by rw [hll], hn, by rw [w_push_eq (by simp)], rfl, rfl, gets_all _ rfl⟩, by simp, fun b' hb' => by rw [w_push_ne (by rw [Heap.n_set]; omega), w_set_ne hlt (by omega)], fun b' hb' => by simp at hb'; omega⟩
theorem first_one {h : Heap} {b : Nat} {x : V} {e : TypeId} (hb : h.get b = some (.cells (Blk.of [x]) e)) : firstV h 1 [x].length (.slice (some (b, 0)) 1 1 true) = some ([x], [b]) := by
  simp only [firstV, hb]
  rw [w_ble_t (by simp [Blk.of])]
  rfl
theorem first_lv {h : Heap} {v : V} {l : List V} (hv : LV h v l) : lenOfV v = some l.length ∧ ∃ rs, firstV h 1 l.length v = some (l, rs) := by
  rcases hv with ⟨rfl, rfl | ⟨a, rfl⟩⟩ | ⟨b, o, cap, ex, c, ce, rfl, hb, hs, hg⟩
  · exact ⟨rfl, [], rfl⟩
  · exact ⟨rfl, [], rfl⟩
  · refine ⟨rfl, [b], ?_⟩
    simp only [firstV, hb]
    rw [w_ble_t (by omega), Nat.mul_one, hg]
theorem mv_may : methV Try.prog 32 "May" = some 21 := by kernel_rfl
theorem mv_get : methV Try.prog 32 "Get" = some 24 := by kernel_rfl
theorem mv_set : methV Try.prog 32 "Set" = some 23 := by kernel_rfl
theorem cvD {M : MP} {R W : Set'} {tm : Tm} {h : Heap} {K : V → Heap → Prop} (x : Operand) : LOp M R W tm h (.convert 3 25 x) K = onO (evV tm x) fun a => onO (convV M.P 3 25 a h) fun r => allB R r.2 ∧ K r.1 h := by
  apply LOp_convert; decide
theorem cvDD {P : Program} {tm : Tm} {h : Heap} {K : V → Heap → Set' → Set' → Prop} (x : Operand) : LOpD P tm h (.convert 3 25 x) K = onO (evV tm x) fun a => onO (convV P 3 25 a h) fun r => K r.1 h (fun x => x ∈ r.2) (fun x => x ∈ ([] : List Nat)) := by
  apply LOpD_convert; decide
theorem cD (h : Heap) (n : Int) : convV Try.prog 3 25 (.int .i64 n) h = some (.int .u32 (IntKind.u32.wrap n), []) := by simp only [convV, Try.underlying3, Try.underlying25]
def ad (a i : Nat) : Nat := (a + i) % 4294967296
theorem ad_lt (a i : Nat) : ad a i < 4294967296 := Nat.mod_lt _ (by omega)
theorem ad_eq (a i : Nat) : intBin .add .u32 (a : Int) (IntKind.u32.wrap (i : Int)) = some (.int .u32 (ad a i : Nat)) := by
  show some (V.int .u32 (IntKind.u32.wrap _)) = _
  have : IntKind.u32.wrap ((a : Int) + IntKind.u32.wrap (i : Int)) = ((ad a i : Nat) : Int) := by
    simp only [IntKind.wrap, IntKind.signed, IntKind.bits, ad]
    simp
  rw [this]
attribute [irreducible] ad
def fst (m : Nat → Bool) (a : Nat) : Nat → Nat → Option Nat
  | _, 0 => none
  | i, k + 1 => match m (ad a i) with
    | true => fst m a (i + 1) k
    | false => some (ad a i)
theorem fst_all {m : Nat → Bool} {a : Nat} : ∀ {k i : Nat}, fst m a i k = none → ∀ j, j < k → m (ad a (i + j)) = true
  | 0, _, _, j, hj => by omega
  | k + 1, i, h, j, hj => by
    simp only [fst] at h
    cases hm' : m (ad a i) with
    | false => rw [hm'] at h; cases h
    | true =>
      rw [hm'] at h
      cases j with
      | zero => exact hm'
      | succ j => have := fst_all h j (by omega); rw [show i + 1 + j = i + (j + 1) by omega] at this; exact this
def fstT : Option Nat → V
  | none => .tuple [.int .u32 0, .bool false]
  | some x => .tuple [.int .u32 x, .bool true]
set_option maxHeartbeats 1000000 in
theorem first_ok {h : Heap} {R W : Set'} {fp n0 : Nat} {L Q : List V} {q : Nat → Int} (hf : FlatAt h fp n0 L Q q) (hR : ∀ b, R b) {a n : Nat} (hn : n ≤ 65536) (r : Int) : SF Try.prog 32 [.iface 32 (.ptr (some (fp, 0))), .int .u32 a, .int .i64 n, .int .i64 r] h R W fun v h' => v = fstT (fst (fun x => mayB q L.length x r) a 0 n) ∧ h' = h := by
  refine SF.go hm Try.func32 ir32_eq ?_
  simp -implicitDefEqProofs (disch := (first | omega | fail)) only [go_sem, Nat.reduceAdd, Nat.reduceSub, Nat.reduceLT, Nat.reduceMod, Nat.reduceDiv, ↓reduceIte, reduceCtorEq, ir32]
  refine GLoop.inv hm (fun k f g => g = h ∧ f.mks = [] ∧ f.tm.n = 31 ∧ f.tm.get 0 = some (.iface 32 (.ptr (some (fp, 0)))) ∧ f.tm.get 1 = some (.int .u32 a) ∧ f.tm.get 3 = some (.int .i64 r) ∧ f.tm.get 10 = some (.int .u32 0) ∧ f.tm.get 11 = some (.bool false) ∧ f.tm.get 14 = some (.int .i64 n) ∧ ∃ i : Nat, i + k = n ∧ f.tm.get 15 = some (.int .i64 i) ∧ fst (fun x => mayB q L.length x r) a i k = fst (fun x => mayB q L.length x r) a 0 n) n ?_ ?_
  · exact ⟨rfl, rfl, rfl, by simp -implicitDefEqProofs (disch := (first | omega | fail)) only [go_sem, ↓reduceIte], by simp -implicitDefEqProofs (disch := (first | omega | fail)) only [go_sem, Nat.reduceDiv, ↓reduceIte, reduceCtorEq], by simp -implicitDefEqProofs (disch := (first | omega | fail)) only [go_sem, Nat.reduceMod, Nat.reduceDiv, ↓reduceIte, reduceCtorEq], by simp -implicitDefEqProofs (disch := (first | omega | fail)) only [go_sem, Nat.reduceSub, Nat.reduceMod, Nat.reduceDiv, ↓reduceIte, reduceCtorEq], by simp -implicitDefEqProofs (disch := (first | omega | fail)) only [go_sem, Nat.reduceSub, Nat.reduceMod, Nat.reduceDiv, ↓reduceIte, reduceCtorEq], by simp -implicitDefEqProofs (disch := (first | omega | fail)) only [go_sem, Nat.reduceSub, Nat.reduceMod, Nat.reduceDiv, ↓reduceIte, reduceCtorEq], 0, by omega, by simp -implicitDefEqProofs (disch := (first | omega | fail)) only [go_sem, Nat.reduceMod, Nat.reduceDiv, ↓reduceIte, reduceCtorEq]; rfl, rfl⟩
  rintro k ⟨⟨n', tr⟩, mks⟩ g ⟨rfl, hmk, hn', t0, t1, t3, t10, t11, t14, i, hi, t15, hF⟩
  simp only [Tm.get_mk] at hmk hn' t0 t1 t3 t10 t11 t14 t15
  subst hmk hn'
  by_cases hin : i < n
  · obtain ⟨k, rfl⟩ : ∃ k', k = k' + 1 := ⟨k - 1, by omega⟩
    simp only [fst] at hF
    simp -implicitDefEqProofs (disch := (first | omega | fail)) only [go_sem, Nat.reduceAdd, Nat.reduceLT, Nat.reduceEqDiff, ↓reduceIte, reduceCtorEq, ir32_l0, t0, t1, t3, t14, t15, ↓cvD, cD, ↓ad_eq, mv_may]
    refine GCall.of (may_ok hf (fun b => .inr (hR b)) (ad_lt a i) r) ?_
    rintro v g1 ⟨rfl, rfl⟩
    cases hmy : mayB q L.length (ad a i) r with
    | true =>
      rw [hmy] at hF
      simp -implicitDefEqProofs (disch := (first | omega | fail)) only [go_sem, Nat.reduceAdd, Nat.reduceLT, Nat.reduceEqDiff, ↓reduceIte, reduceCtorEq, t0, t1, t3, t10, t11, t14, t15]
      exact ⟨k, by omega, i + 1, by omega, rfl, hF⟩
    | false =>
      rw [hmy] at hF
      simp -implicitDefEqProofs (disch := (first | omega | fail)) only [go_sem, Nat.reduceAdd, Nat.reduceLT, Nat.reduceEqDiff, ↓reduceIte, reduceCtorEq]
      rw [← hF]; rfl
  · obtain rfl : k = 0 := by omega
    simp -implicitDefEqProofs (disch := (first | omega | fail)) only [go_sem, Nat.reduceAdd, Nat.reduceLT, Nat.reduceEqDiff, ↓reduceIte, ir32_l0, t10, t11, t14, t15]
    rw [← hF]; rfl
end Go.Proofs.Ytmkdbninmimndaa
