/- stands. -/
import Derived.Test.YthdkhbhicimpdaaE7
set_option linter.unusedVariables false
set_option maxRecDepth 100000
namespace Go.Proofs.Ythdkhbhicimpdaa
open Go Go.Vm
attribute [-go_sem] sz_113
theorem sb_eq (a : ByteArray) : strBin .eql a a = some (.bool true) := by
  show some (V.bool (eqB a.data.toList a.data.toList)) = _
  rw [eqB_eq]; simp
theorem partV_eq (X : XS) (a : Int) : ∃ x y : Int, ∃ b : Bool, partV X a = [.int .i64 x, .int .i64 y, .bool b] ∧ y = (if 0 ≤ a ∧ a < X.n then (X.count a.toNat : Int) else 0) := by
  unfold partV
  split
  · rename_i h; exact ⟨_, _, _, rfl, rfl⟩
  · rename_i h; exact ⟨_, _, _, rfl, rfl⟩
theorem ownV_eq (X : XS) (s : Int) : ∃ x y : Int, ∃ b : Bool, ownV X s = [.int .i64 x, .int .i64 y, .bool b] := by
  unfold ownV
  split <;> exact ⟨_, _, _, rfl⟩
set_option maxHeartbeats 2000000 in
theorem stands_l0 {g : Heap} {R W S : Set'} {Q : Ex → Fr → Heap → Prop} {t : List It} {bx bd rx rd qb hb x2 : Nat} {tb hk : Nat → Nat} {X : XS} (hx : ExtAt g bx bd tb X) (hr : RExt g S rx rd qb hb hk X) (hS : ∀ b, S b → b < g.n) (hR : ∀ b, R b) (leave : Int) (h2 : g.get x2 = some (.cells (Blk.of [.ptr (some (bx, 0)), .ptr (some (bd, 0)), .ptr (some (rx, 0))]) 29))
    {tr : Tr V} (u1 : tr.get 1 = some (.int .i64 leave)) (u2 : tr.get 2 = some (.ptr (some (x2, 0)))) (u5 : tr.get 5 = some (.int .i64 (-1)))
    (hk' : ∀ tr : Tr V, tr.get 2 = some (.ptr (some (x2, 0))) → resume (Try.prog : MP) R W none Q t (.exit 0) ⟨⟨140, tr⟩, []⟩ g) :
    GLoop (Try.prog : MP) R W none Q ir12_l0 t ⟨⟨140, tr⟩, []⟩ g := by
  refine GLoop.inv hm (fun k f g' => f.mks = [] ∧ f.tm.n = 140 ∧ f.tm.get 1 = some (.int .i64 leave) ∧ f.tm.get 2 = some (.ptr (some (x2, 0))) ∧ g' = g ∧ ∃ i : Nat, i + k = 11 ∧ f.tm.get 5 = some (.int .i64 ((i : Int) - 1))) 11 ?_ ?_
  · exact ⟨rfl, rfl, u1, u2, rfl, 0, by omega, u5⟩
  clear u1 u2 u5
  clear tr
  rintro k ⟨⟨n', tr⟩, mks⟩ g' ⟨hmk, hn', t1, t2, rfl, i, hik, t5⟩
  simp only [Tm.get_mk] at hmk hn' t1 t2 t5
  subst hmk hn'
  by_cases hi : i < 11
  · have h1 : (i : Int) - 1 ≤ 9 := by omega
    have hne : ∀ x : Int, (x != x) = false := fun x => by simp
    have hbb : ∀ x : Bool, (x != x) = false := fun x => by cases x <;> rfl
    have hR2 := hR x2
    obtain ⟨a, ea⟩ : ∃ a : Int, a = (i : Int) - 1 := ⟨_, rfl⟩
    rw [← ea] at t5 h1
    obtain ⟨px, py, pb, ep, epy⟩ := partV_eq X a
    simp -implicitDefEqProofs (disch := (first | omega | fail)) only [go_sem, Nat.reduceAdd, Nat.reduceLT, Nat.reduceEqDiff, ↓reduceIte, ir12_l0, t2, t5, h1, h2, hR2]
    refine GCall.of (part_uni hx (fun b _ => hR b) a) ?_
    rintro v g1 ⟨rfl, rfl⟩
    rw [ep]
    simp -implicitDefEqProofs (disch := (first | omega | fail)) only [go_sem, Nat.reduceAdd, Nat.reduceLT, Nat.reduceEqDiff, ↓reduceIte, t2, t5, h2, hR2]
    refine GCall.of (rpart_ok hr (fun b _ => hR b) a) ?_
    rintro v g1 ⟨rfl, rfl⟩
    rw [ep]
    simp -implicitDefEqProofs (disch := (first | omega | fail)) only [go_sem, Nat.reduceAdd, Nat.reduceLT, Nat.reduceEqDiff, ↓reduceIte, t2, t5, h2, hne, undefV]
    refine GCallD.of (R' := FootX bx tb X) (W' := fun _ => False) (quota_uni hx (fun b hb => hb) a) ?_
    rintro v g1 ⟨rfl, rfl⟩
    rw [← epy]
    simp -implicitDefEqProofs (disch := (first | omega | fail)) only [go_sem, Nat.reduceAdd, Nat.reduceLT, Nat.reduceEqDiff, ↓reduceIte, t2, t5, h2, hne, undefV]
    refine GCallD.of (R' := FootX bx tb X) (W' := fun _ => False) (taken_uni hx a) ?_
    rintro v g1 ⟨rfl, rfl⟩
    simp -implicitDefEqProofs (disch := (first | omega | fail)) only [go_sem, Nat.reduceAdd, Nat.reduceLT, Nat.reduceEqDiff, ↓reduceIte, t2, t5, h2, undefV]
    refine GCallD.of (R' := S) (W' := fun _ => False) (rtaken_ok hr (fun b hb => hb) a) ?_
    rintro v g1 ⟨rfl, rfl⟩
    simp -implicitDefEqProofs (disch := (first | omega | fail)) only [go_sem, Nat.reduceAdd, Nat.reduceLT, Nat.reduceEqDiff, ↓reduceIte, t1, t2, t5, h2, hne, undefV]
    refine GCallD.of (R' := fun b => FootX bx tb X b ∨ S b) (W' := fun _ => False) (goes_ok hx hr hS a leave) ?_
    rintro v g1 ⟨rfl, rfl⟩
    simp -implicitDefEqProofs (disch := (first | omega | fail)) only [go_sem, Nat.reduceAdd, Nat.reduceLT, Nat.reduceEqDiff, ↓reduceIte, t1, t2, t5]
    refine ⟨?_, ?_, k - 1, by omega, i + 1, by omega, by congr 1; omega⟩
    · simp only [List.not_mem_nil, or_false, false_or, and_false, false_implies, implies_true, not_false_eq_true, List.mem_cons, and_true, true_and]
      all_goals (try and_intros)
      all_goals (intros; omega)
    · and_intros
      all_goals (intros; first | exact hR _ | exact False.elim ‹False›)
  · have h1 : ¬ (i : Int) - 1 ≤ 9 := by omega
    simp -implicitDefEqProofs (disch := (first | omega | fail)) only [go_sem, Nat.reduceAdd, Nat.reduceLT, ↓reduceIte, ir12_l0, t5, h1]
    exact hk' _ (by simp -implicitDefEqProofs (disch := (first | omega | fail)) only [go_sem, Nat.reduceEqDiff, ↓reduceIte, t2])
set_option maxHeartbeats 2000000 in
theorem stands_l1 {h : Heap} {R W S S2 : Set'} {Q : Ex → Fr → Heap → Prop} {t : List It} {bx bd rx rd qb hb x2 : Nat} {tb hk : Nat → Nat} {X : XS} {D : DS} (hx : ExtAt h bx bd tb X) (hr : RExt h S rx rd qb hb hk X) (hd : RefAt h S2 rd D) (hR : ∀ b, R b) (hx2 : h.get x2 = some (.cells (Blk.of [.ptr (some (bx, 0)), .ptr (some (bd, 0)), .ptr (some (rx, 0))]) 29)) (hWn : ∀ b, h.n ≤ b → R b ∧ W b)
    {tr : Tr V} (u2 : tr.get 2 = some (.ptr (some (x2, 0)))) (u12 : tr.get 12 = some (.int .i64 (-1)))
    (hk' : ∀ (tr : Tr V) g', h.n ≤ g'.n → (∀ b, b < h.n → g'.get b = h.get b) → tr.get 2 = some (.ptr (some (x2, 0))) → resume (Try.prog : MP) R W none Q t (.exit 2) ⟨⟨140, tr⟩, []⟩ g') :
    GLoop (Try.prog : MP) R W none Q ir12_l1 t ⟨⟨140, tr⟩, []⟩ h := by
  obtain ⟨c, xq, xh, x1, y2, y3, y4, y5, y6⟩ := hr.x
  obtain ⟨cd, fb, pb, xf, xp, d1, d2, d3, d4, _⟩ := hd.d
  have hpos := hd.pos
  have hRx := hR rx
  have hRd := hR rd
  have hR2 := hR x2
  refine GLoop.inv hm (fun k f g' => f.mks = [] ∧ f.tm.n = 140 ∧ f.tm.get 2 = some (.ptr (some (x2, 0))) ∧ h.n ≤ g'.n ∧ (∀ b, b < h.n → g'.get b = h.get b) ∧ ∃ i : Nat, i + k = D.n + 2 ∧ f.tm.get 12 = some (.int .i64 ((i : Int) - 1))) (D.n + 2) ?_ ?_
  · exact ⟨rfl, rfl, u2, Nat.le_refl _, fun _ _ => rfl, 0, by omega, u12⟩
  clear u2 u12
  clear tr
  rintro k ⟨⟨n', tr⟩, mks⟩ g' ⟨hmk, hn', t2, gn, hold, i, hik, t12⟩
  simp only [Tm.get_mk] at hmk hn' t2 t12
  subst hmk hn'
  have hx2g := (hold x2 (Heap.lt_of_get hx2)).trans hx2
  have x1g := (hold rx (Heap.lt_of_get x1)).trans x1
  have d1g := (hold rd (Heap.lt_of_get d1)).trans d1
  obtain ⟨s, es⟩ : ∃ s : Int, s = (i : Int) - 1 := ⟨_, rfl⟩
  rw [← es] at t12
  by_cases hi : i < D.n + 2
  · have h1 : s ≤ (D.n : Nat) := by omega
    have hne : ∀ x : Int, (x != x) = false := fun x => by simp
    have hbb : ∀ x : Bool, (x != x) = false := fun x => by cases x <;> rfl
    obtain ⟨px, py, pb, ep⟩ := ownV_eq X s
    simp -implicitDefEqProofs (disch := (first | omega | (simp -implicitDefEqProofs only [szs, ne_eq] <;> omega) | fail)) only [go_sem, Nat.reduceAdd, Nat.reduceLT, Nat.reduceEqDiff, ↓reduceIte, ir12_l1, t2, t12, hx2g, hR2, x1g, y2, y4, hRx, d1g, d2, d4, hRd, h1]
    refine GCall.of (owner_ok (hx.old hold) (fun b _ => hR b) s) ?_
    rintro v g1 ⟨rfl, n1, k1⟩
    rw [ep]
    have hx21 := (k1 x2 (Heap.lt_of_get hx2g)).trans hx2g
    simp -implicitDefEqProofs (disch := (first | omega | (simp -implicitDefEqProofs only [szs, ne_eq] <;> omega) | fail)) only [go_sem, Nat.reduceAdd, Nat.reduceLT, Nat.reduceEqDiff, ↓reduceIte, t2, t12, hx21, hR2]
    refine GCall.of (rowner_ok ((hr.old hold).old k1) (fun b _ => hR b) s) ?_
    rintro v g2 ⟨rfl, rfl⟩
    rw [ep]
    simp -implicitDefEqProofs (disch := (first | omega | (simp -implicitDefEqProofs only [szs, ne_eq] <;> omega) | fail)) only [go_sem, Nat.reduceAdd, Nat.reduceLT, Nat.reduceEqDiff, ↓reduceIte, t2, t12, hne]
    exact ⟨k - 1, by omega, by omega, fun b hb => by rw [k1 b (by omega)]; exact hold b hb, i + 1, by omega, by congr 1; omega⟩
  · have h1 : ¬ s ≤ (D.n : Nat) := by omega
    simp -implicitDefEqProofs (disch := (first | omega | (simp -implicitDefEqProofs only [szs, ne_eq] <;> omega) | fail)) only [go_sem, Nat.reduceAdd, Nat.reduceLT, Nat.reduceEqDiff, ↓reduceIte, ir12_l1, t2, t12, hx2g, hR2, x1g, y2, y4, hRx, d1g, d2, d4, hRd, h1]
    exact hk' _ g' gn hold (by simp -implicitDefEqProofs (disch := (first | omega | (simp -implicitDefEqProofs only [szs, ne_eq] <;> omega) | fail)) only [go_sem, Nat.reduceEqDiff, ↓reduceIte, t2])
set_option maxHeartbeats 2000000 in
theorem stands_ok {h : Heap} {R W S S2 : Set'} {u : UU} {rx rd qb hb : Nat} {hk : Nat → Nat} (hu : AtU h u) (hr : RExt h S rx rd qb hb hk u.X) (hd : RefAt h S2 rd u.D) (hS : ∀ b, S b → b < h.n) (hR : ∀ b, R b) (leave : Int) :
    SF Try.prog 12 [.agg [.ptr (some (u.bx, 0)), .ptr (some (u.bd, 0)), .ptr (some (rx, 0))], .int .i64 leave] h R W fun v h' => v = .bool true ∧ h.n ≤ h'.n ∧ ∀ b, b < h.n → h'.get b = h.get b := by
  obtain ⟨h0, e0, n0, b1, k0⟩ : ∃ h0, h.push (.cells (Blk.of [.ptr (some (u.bx, 0)), .ptr (some (u.bd, 0)), .ptr (some (rx, 0))]) 29) = h0 ∧ h0.n = h.n + 1 ∧ h0.get h.n = some (.cells (Blk.of [.ptr (some (u.bx, 0)), .ptr (some (u.bd, 0)), .ptr (some (rx, 0))]) 29) ∧ ∀ b, b < h.n → h0.get b = h.get b := ⟨_, rfl, by simp, w_push_eq rfl _, fun b hb => w_push_ne (by omega) _⟩
  have hu0 := hu.old k0
  have hr0 := hr.old k0
  have hd0 := hd.old k0
  refine SF.go hm Try.func12 ir12_eq ?_
  simp -implicitDefEqProofs (disch := (first | omega | (simp -implicitDefEqProofs only [szs, ne_eq] <;> omega) | fail)) only [go_sem, Nat.reduceAdd, Nat.reduceSub, Nat.reduceLT, Nat.reduceMod, Nat.reduceDiv, ↓reduceIte, reduceCtorEq, ir12, e0]
  refine stands_l0 (x2 := h.n) hu0.x hr0 (fun b hb => by have := hS b hb; omega) (fun b => .inr (hR b)) leave b1 (by simp -implicitDefEqProofs (disch := (first | omega | (simp -implicitDefEqProofs only [szs, ne_eq] <;> omega) | fail)) only [go_sem, Nat.reduceDiv, ↓reduceIte, reduceCtorEq]) (by simp -implicitDefEqProofs (disch := (first | omega | (simp -implicitDefEqProofs only [szs, ne_eq] <;> omega) | fail)) only [go_sem, Nat.reduceSub, Nat.reduceMod, Nat.reduceDiv, ↓reduceIte, reduceCtorEq]) (by simp -implicitDefEqProofs (disch := (first | omega | (simp -implicitDefEqProofs only [szs, ne_eq] <;> omega) | fail)) only [go_sem, Nat.reduceSub, Nat.reduceMod, Nat.reduceDiv, ↓reduceIte, reduceCtorEq]) ?_
  intro tr t2
  simp -implicitDefEqProofs (disch := (first | omega | (simp -implicitDefEqProofs only [szs, ne_eq] <;> omega) | fail)) only [go_sem, Nat.reduceAdd, Nat.reduceLT, ↓reduceIte]
  refine stands_l1 (x2 := h.n) (h := h0) hu0.x hr0 hd0 (fun b => .inr (hR b)) b1 (fun b hb => ⟨.inl (by omega), .inl (by omega)⟩) (by simp -implicitDefEqProofs (disch := (first | omega | (simp -implicitDefEqProofs only [szs, ne_eq] <;> omega) | fail)) only [go_sem, Nat.reduceEqDiff, ↓reduceIte, t2]) (by simp -implicitDefEqProofs (disch := (first | omega | (simp -implicitDefEqProofs only [szs, ne_eq] <;> omega) | fail)) only [go_sem, ↓reduceIte]) ?_
  clear t2
  clear tr
  intro tr g gn hold t2
  have b1g := (hold h.n (by omega)).trans b1
  have hRn : h.n ≤ h.n ∨ R h.n := .inl (Nat.le_refl _)
  have hug := hu0.old hold
  obtain ⟨c, xq, xh, x1, y2, y3, y4, y5, y6⟩ := (hr0.old hold).x
  have hRx := hR rx
  simp -implicitDefEqProofs (disch := (first | omega | (simp -implicitDefEqProofs only [szs, ne_eq] <;> omega) | fail)) only [go_sem, Nat.reduceAdd, Nat.reduceLT, ↓reduceIte, t2, b1g]
  refine GCallD.of (R' := fun _ => True) (W' := fun _ => False) (xdisk_ok hug.x trivial) ?_
  rintro v g1 ⟨rfl, rfl⟩
  obtain ⟨np, xp1, xp2⟩ : ∃ nn, nn = g1.n ∧ h.n ≤ nn := ⟨_, rfl, by omega⟩
  simp -implicitDefEqProofs (disch := (first | omega | (simp -implicitDefEqProofs only [szs, ne_eq] <;> omega) | fail)) only [go_sem, Nat.reduceAdd, Nat.reduceLT, Nat.reduceEqDiff, ↓reduceIte, t2, b1g, undefV, w_beq_t (rfl : u.bd = u.bd), w_beq_t (rfl : (0 : Nat) = 0)]
  refine GCallD.of (R' := fun _ => True) (W' := fun _ => False) (bytes_ok hug.d (fun _ _ => trivial)) ?_
  rintro v g2 ⟨rfl, n2, ⟨cc, c1, c2, c3, c4⟩, k2⟩
  have b12 := (k2 h.n (by omega)).trans b1g
  have x12 := (k2 rx (Heap.lt_of_get x1)).trans x1
  have hfi := flatF_int hug.d.fl
  have hcv := conv_str (cap := u.D.n * 128) (ex := true) c1 (o := 0) (len := u.D.n * 128) (by omega) c4 hfi
  have hRg : h.n ≤ g1.n ∨ R g1.n := .inl (by omega)
  simp -implicitDefEqProofs (disch := (first | omega | (simp -implicitDefEqProofs only [szs, ne_eq] <;> omega) | fail)) only [go_sem, Nat.reduceAdd, Nat.reduceLT, Nat.reduceEqDiff, ↓reduceIte, t2, b12, undefV, ↓cv_opD, ↓hcv, x12, y2, y4]
  refine GCallD.of (R' := fun _ => True) (W' := fun _ => False) (rbytes_ok ((hd0.old hold).old k2) (fun _ => trivial)) ?_
  rintro v g3 ⟨ho, k3⟩
  have hfl := flatF_len hug.d.fl
  have hpos := hug.d.pos
  rcases ho with ⟨h0', _⟩ | ⟨b, ex, c', h0', rfl, hb0, e1, e2, e3, e4⟩
  · rw [h0'] at hfl; simp at hfl; omega
  have hcv2 := conv_str (cap := (flatF u.D.fl u.D.n).length) (ex := ex) e1 (o := 0) (len := (flatF u.D.fl u.D.n).length) (by omega) e4 hfi
  have hn3 := Heap.lt_of_get e1
  have hn4 : g2.n ≤ b := hb0
  have hn5 : h.n ≤ g3.n := by
    omega
  have hsb := sb_eq (strB (flatF u.D.fl u.D.n))
  simp -implicitDefEqProofs (disch := (first | omega | (simp -implicitDefEqProofs only [szs, ne_eq] <;> omega) | fail)) only [go_sem, Nat.reduceAdd, Nat.reduceLT, Nat.reduceEqDiff, ↓reduceIte, ↓cv_opD, ↓hcv2, ↓hsb]
  have hrx := Heap.lt_of_get x1
  refine ⟨?_, ?_, hn5, fun b' hb' => by rw [k3 b' (by omega), k2 b' (by omega), hold b' (by omega)]; exact k0 b' hb'⟩
  · simp only [List.not_mem_nil, or_false, false_or, and_false, false_implies, implies_true, not_false_eq_true, List.mem_cons, and_true, true_and]
    and_intros
    all_goals (intros; omega)
  · and_intros
    all_goals (intros; first | exact .inr (hR _) | exact .inl (by omega) | exact False.elim ‹False›)
end Go.Proofs.Ythdkhbhicimpdaa
