/- CpuOnce: the walk. -/
import Derived.Test.YtmkdbninmimndaaG3
set_option linter.unusedVariables false
set_option maxRecDepth 100000
namespace Go.Proofs.Ytmkdbninmimndaa
open Go Go.Vm
variable {rs : Regs} {pc : BitVec 32}
abbrev Goal4 (H g : Heap) (tr : Tr V) (c : LC) : Prop := GO (Try.prog : MP) (fun _ => True) (fun b => H.n ≤ b ∨ WH H b) none (Vm.Fin (Try.prog : MP) (fun _ => True) (fun b => H.n ≤ b ∨ WH H b) [ResultVar.tmp 8] fun r x => r = V.bool true) [.code c] ⟨⟨122, tr⟩, []⟩ g
set_option maxHeartbeats 8000000 in
theorem once_d {H g : Heap} {fp rm n0 n1 k6 k7 k9 k10 : Nat} {L Q : List V} {q : Nat → Int} {R : Res} {e : Int} {vM vR : V} (hfl : FlatAt g fp n0 L Q q) (hM : RM g rm n1 vM vR L) (x6 : g.get k6 = some (.cells (stV R) 28)) (x7 : g.get k7 = some (.cells (spV R) 38)) (x9 : g.get k9 = some (.cells (stV R) 28)) (x10 : g.get k10 = some (.cells (spV R) 38))
    {tr : Tr V} (t15 : tr.get 15 = some (.ptr (some (fp, 0)))) (t16 : tr.get 16 = some (.ptr (some (rm, 0)))) (t18 : tr.get 18 = some (.ptr (some (k6, 0)))) (t19 : tr.get 19 = some (.ptr (some (k7, 0)))) (t21 : tr.get 21 = some (.ptr (some (k9, 0)))) (t22 : tr.get 22 = some (.ptr (some (k10, 0)))) (t20 : tr.get 20 = some (.int .i64 e)) (t23 : tr.get 23 = some (.int .i64 e)) :
    GO (Try.prog : MP) (fun _ => True) (fun b => H.n ≤ b ∨ WH H b) none (Vm.Fin (Try.prog : MP) (fun _ => True) (fun b => H.n ≤ b ∨ WH H b) [ResultVar.tmp 8] fun r x => r = V.bool true) [.code ir4_r17] ⟨⟨122, tr⟩, []⟩ g := by
  simp -implicitDefEqProofs (disch := (first | omega | fail)) only [go_sem, seval, ↓reduceIte, ir4_r17_eq, ir4_s17, t15, t18, t19, t20, t21, t22, t23, x6, x7, x9, x10]
  have hbyt := bytesL hfl.byt
  refine GCallD.of (R' := fun _ => True) (W' := fun _ => False) (((bytes_ok (R := fun _ => True) (W := fun _ => False) hfl (fun b => trivial)).kept).foot (fun _ h => h) (fun _ h => h)) ?_
  rintro v1 g1 ⟨⟨o1, k1⟩, vf1⟩
  obtain ⟨cm, m1, ms, m0, m2⟩ := hM.1.c
  have m1' := (k1 _ (Heap.lt_of_get m1)).trans m1
  obtain ⟨rs1, hc1⟩ := conv_lv o1.lv hbyt
  obtain ⟨rs2, hrs2, hc2'⟩ := conv_lvB hM.2.lv hbyt
  have hc2 := hc2' g1 k1
  have hrm := Heap.lt_of_get m1
  simp -implicitDefEqProofs (disch := (first | omega | fail)) only [go_sem, seval, ↓reduceIte, t16, ↓cvSD, hc1, hc2, m1', ms, m0, sb_eq]
  refine GCallD.of (R' := fun _ => True) (W' := fun _ => False) (known_ok _ _ _) ?_
  rintro r g3 ⟨rfl, rfl⟩
  simp -implicitDefEqProofs (disch := (first | omega | fail)) only [go_sem, seval, ↓reduceIte]
  simp only [List.not_mem_nil, or_false, false_or, and_false, false_implies, implies_true, not_false_eq_true, List.mem_cons, and_true, true_and]
  refine ⟨⟨fun b hb h => by omega, fun b hb h => by have := hrs2 b h.2; omega⟩, ?_⟩
  simp -implicitDefEqProofs (disch := (first | omega | fail)) only [go_sem, seval, ↓reduceIte, ir4_r18, ir4_s18]
set_option maxHeartbeats 8000000 in
theorem once_c {H g2 : Heap} {fp rm kS n0 n1 : Nat} {L Q : List V} {q : Nat → Int} {vM vR : V} {cS : Blk} (hSC : SC cS rs pc) (b2 : g2.get kS = some (.cells cS 28)) (hkS : kS < n0) (hn0 : H.n < n0) (hn01 : n0 ≤ n1) (hfl : FlatAt g2 fp n0 L Q q) (hfb : FB g2 fp n1) (hrm : n1 ≤ rm) (hrM : RM g2 rm n1 vM vR L) (hR : ∀ g : Heap, (∀ b, b < n0 → g.get b = g2.get b) → LV g vR Q) (hvR : sblk vR < n1)
    {tr : Tr V} (t5 : tr.get 5 = some (.ptr (some (kS, 0)))) (t15 : tr.get 15 = some (.ptr (some (fp, 0)))) (t16 : tr.get 16 = some (.ptr (some (rm, 0)))) : Goal4 H g2 tr ir4_r15 := by
  unfold Goal4
  have hs := hSC.size; have hr := hSC.ro; have hpc := hSC.pc
  have a0 := hSC.reg 0 (by omega); have a1 := hSC.reg 1 (by omega); have a2 := hSC.reg 2 (by omega); have a3 := hSC.reg 3 (by omega); have a4 := hSC.reg 4 (by omega); have a5 := hSC.reg 5 (by omega); have a6 := hSC.reg 6 (by omega); have a7 := hSC.reg 7 (by omega)
  have a8 := hSC.reg 8 (by omega); have a9 := hSC.reg 9 (by omega); have a10 := hSC.reg 10 (by omega); have a11 := hSC.reg 11 (by omega); have a12 := hSC.reg 12 (by omega); have a13 := hSC.reg 13 (by omega); have a14 := hSC.reg 14 (by omega); have a15 := hSC.reg 15 (by omega)
  have hrg : rm < g2.n := by obtain ⟨c, c1, _⟩ := hrM.1.c; exact Heap.lt_of_get c1
  have hk2 := Heap.lt_of_get b2
  have hfk := hfb.fblk
  simp -implicitDefEqProofs (disch := (first | omega | (simp -implicitDefEqProofs only [szs, ne_eq] <;> omega) | fail)) only [go_sem, seval, ↓reduceIte, ir4_r15_eq, ir4_s15, t5, t15, b2, hs, hpc, a0, a1, a2, a3, a4, a5, a6, a7, a8, a9, a10, a11, a12, a13, a14, a15, ↓mkI]
  refine GCall.of ((run12_any (rs := rs) (pc := pc) hfl (by omega) (show (1 : Int) ≤ 65536 by omega)).foot (fun _ h => h) (fun b h => .inl (Nat.le_trans (by omega) h.2))) ?_
  rintro r3 g3 ⟨⟨rfl, hfl3, hfp3⟩, vf3⟩
  have hn3 := vf3.n
  have k3 : ∀ b, b < g2.n → (b < n0 ∨ n1 ≤ b) → g3.get b = g2.get b := fun b hb hc => vf3.get b hb fun hq => by omega
  have b3 := (k3 kS (by omega) (.inl hkS)).trans b2
  generalize hR0 : runR q 1 rs pc L = R at hfl3
  generalize he : runE 1 = e
  have hM3 := hrM.abv hrm fun b h1 h2 => k3 b h2 (.inr h1)
  have hR3 : LV g3 vR Q := hR g3 fun b hb => k3 b (by omega) (.inl hb)
  simp -implicitDefEqProofs (disch := (first | omega | (simp -implicitDefEqProofs only [szs, ne_eq] <;> omega) | fail)) only [go_sem, seval, ↓reduceIte, ir4_r16_eq, ir4_s16, undefV, t5, t16, b3, hs, hpc, a0, a1, a2, a3, a4, a5, a6, a7, a8, a9, a10, a11, a12, a13, a14, a15]
  refine ⟨.inl (by omega), .inl (by omega), ?_⟩
  refine GCall.of ((run13_any (rs := rs) (pc := pc) (n1 := n1) (vB := vM) (vr := vR) (L := L) ?_ (hfl.rig (hR3.old ?_)) ?_ ?_ ?_ (show (1 : Int) ≤ 65536 by omega)).foot (fun _ h => h) (fun b h => .inl (Nat.le_trans (by omega) h.2))) ?_
  · exact hM3.abv hrm fun b h1 h2 => by simp -implicitDefEqProofs (disch := (first | omega | (simp -implicitDefEqProofs only [szs, ne_eq] <;> omega) | fail)) only [go_sem, seval]
  · intro b hb; simp -implicitDefEqProofs (disch := (first | omega | (simp -implicitDefEqProofs only [szs, ne_eq] <;> omega) | fail)) only [go_sem, seval]
  · simp only [Heap.n_set, Heap.n_push]; omega
  · exact hvR
  · have := hM3.2.sblk_lt (by omega)
    simp only [Heap.n_set, Heap.n_push]; omega
  rintro r4 g4 ⟨⟨rfl, hM4⟩, vf4⟩
  rw [hR0] at hM4
  rw [hR0, he]
  have hn4 := vf4.n
  simp only [Heap.n_set, Heap.n_push] at hn4
  have hvM := hM3.2.sblk_lt (by omega)
  have vf4g : ∀ b, b < g3.n + 1 + 1 → b ≠ sblk vM → g4.get b = _ := fun b hb hq => vf4.get b (by simp only [Heap.n_set, Heap.n_push]; omega) fun hc => hq hc.1
  have k4 : ∀ b, b < n1 → g4.get b = g3.get b := fun b hb => by
    rw [vf4.get b (by simp only [Heap.n_set, Heap.n_push]; omega) fun hc => by omega]
    simp -implicitDefEqProofs (disch := (first | omega | (simp -implicitDefEqProofs only [szs, ne_eq] <;> omega) | fail)) only [go_sem, seval]
  have x6 := vf4g g3.n (by omega) (by omega)
  have x7 := vf4g (g3.n + 1) (by omega) (by omega)
  simp -implicitDefEqProofs (disch := (first | omega | (simp -implicitDefEqProofs only [szs, ne_eq] <;> omega) | fail)) only [go_sem, seval] at x6 x7
  have hfl4 := hfl3.below (hfb.same hfp3) (k4)
  simp -implicitDefEqProofs (disch := (first | omega | (simp -implicitDefEqProofs only [szs, ne_eq] <;> omega) | fail)) only [go_sem, seval, ↓reduceIte, undefV]
  refine ⟨.inl (by omega), .inl (by omega), ?_⟩
  refine once_d (k6 := g3.n) (k7 := g3.n + 1) (k9 := g4.n) (k10 := g4.n + 1) (e := e) (fp := fp) (rm := rm) (n0 := n0) (n1 := n1) (L := R.L) (Q := Q) (q := q) (R := R) (vM := vM) (vR := vR) (hfl4.old fun b hb => ?_) (hM4.abv hrm fun b _ hb => ?_) ?_ ?_ ?_ ?_ (by simp -implicitDefEqProofs (disch := (first | omega | (simp -implicitDefEqProofs only [szs, ne_eq] <;> omega) | fail)) only [go_sem, seval, ↓reduceIte, t15]) (by simp -implicitDefEqProofs (disch := (first | omega | (simp -implicitDefEqProofs only [szs, ne_eq] <;> omega) | fail)) only [go_sem, seval, ↓reduceIte, t16]) (by simp -implicitDefEqProofs (disch := (first | omega | (simp -implicitDefEqProofs only [szs, ne_eq] <;> omega) | fail)) only [go_sem, seval, ↓reduceIte]) (by simp -implicitDefEqProofs (disch := (first | omega | (simp -implicitDefEqProofs only [szs, ne_eq] <;> omega) | fail)) only [go_sem, seval, ↓reduceIte]) (by simp -implicitDefEqProofs (disch := (first | omega | (simp -implicitDefEqProofs only [szs, ne_eq] <;> omega) | fail)) only [go_sem, seval, ↓reduceIte]) (by simp -implicitDefEqProofs (disch := (first | omega | (simp -implicitDefEqProofs only [szs, ne_eq] <;> omega) | fail)) only [go_sem, seval, ↓reduceIte]) (by simp -implicitDefEqProofs (disch := (first | omega | (simp -implicitDefEqProofs only [szs, ne_eq] <;> omega) | fail)) only [go_sem, seval, ↓reduceIte]) (by simp -implicitDefEqProofs (disch := (first | omega | (simp -implicitDefEqProofs only [szs, ne_eq] <;> omega) | fail)) only [go_sem, seval, ↓reduceIte])
  · simp -implicitDefEqProofs (disch := (first | omega | (simp -implicitDefEqProofs only [szs, ne_eq] <;> omega) | fail)) only [go_sem, seval]
  · simp -implicitDefEqProofs (disch := (first | omega | (simp -implicitDefEqProofs only [szs, ne_eq] <;> omega) | fail)) only [go_sem, seval]
  · simp -implicitDefEqProofs (disch := (first | omega | (simp -implicitDefEqProofs only [szs, ne_eq] <;> omega) | fail)) only [go_sem, seval, x6]
  · simp -implicitDefEqProofs (disch := (first | omega | (simp -implicitDefEqProofs only [szs, ne_eq] <;> omega) | fail)) only [go_sem, seval, x7]
  · simp -implicitDefEqProofs (disch := (first | omega | (simp -implicitDefEqProofs only [szs, ne_eq] <;> omega) | fail)) only [go_sem, seval]
  · simp -implicitDefEqProofs (disch := (first | omega | (simp -implicitDefEqProofs only [szs, ne_eq] <;> omega) | fail)) only [go_sem, seval]
def BufAt (nb n2 : Nat) (g : Heap) (v : V) (l : List V) : Prop := (l.length ≤ 64 ∧ ∃ c, v = .slice (some (nb, 0)) l.length 64 true ∧ g.get nb = some (.cells c 5) ∧ c.size = 64 ∧ c.ro = false ∧ c.gets 0 l.length = l) ∨ Own n2 g v l 5
theorem gets_putA_app {c : Blk} {l news : List V} (hg : c.gets 0 l.length = l) (hs : l.length + news.length ≤ c.size) : (c.putA (0 + l.length * 1) news).gets 0 (l ++ news).length = l ++ news := by
  refine List.ext_getElem? fun j => ?_
  rw [List.length_append]
  by_cases hj : j < l.length + news.length
  · rw [Blk.gets_get _ _ _ _ hj, Blk.get_putA _ _ _ _ (by omega)]
    by_cases h1 : j < l.length
    · rw [if_neg (by omega), List.getElem?_append_left h1]
      have := Blk.gets_get c l.length 0 j h1
      rw [hg] at this
      exact this.symm
    · rw [if_pos (by omega), List.getElem?_append_right (by omega), List.getD_eq_getElem?_getD, show 0 + j - (0 + l.length * 1) = j - l.length by omega, List.getElem?_eq_getElem (by omega)]; rfl
  · rw [List.getElem?_eq_none (by rw [Blk.length_gets]; omega), List.getElem?_eq_none (by rw [List.length_append]; omega)]
theorem app_buf {nb n2 : Nat} {h : Heap} {v x : V} {l news : List V} {rs : List Nat} (hb : BufAt nb n2 h v l) (hnb : nb < n2) (hn2 : n2 ≤ h.n) (hx : lenOfV x = some news.length) (hf : firstV h 1 news.length x = some (news, rs)) (h1 : allOne news = true) (hc : l.length + news.length ≤ 1000000) :
    ∃ v' h' r w, appE 5 1 1 v x h = some ⟨v', h', r, w⟩ ∧ BufAt nb n2 h' v' (l ++ news) ∧ h.n ≤ h'.n ∧ (∀ b, b < n2 → b ≠ nb → h'.get b = h.get b) ∧ ∀ b ∈ w, b = nb ∨ n2 ≤ b := by
  rcases hb with ⟨hl, c, rfl, hb, hs, hr, hg⟩ | ho
  · have hlt := Heap.lt_of_get hb
    simp only [appE, hx, hf]
    rw [w_beq_t (show news.length = news.length * 1 by omega)]
    by_cases h64 : l.length + news.length ≤ 64
    · rw [w_ble_t h64]
      simp only [appendIn, hb, h1, hr]
      rw [w_ble_t (by omega)]
      exact ⟨_, _, _, _, rfl, .inl ⟨by rw [List.length_append]; exact h64, _, by rw [List.length_append], by rw [w_set_eq hlt rfl], by rw [Blk.size_putA]; exact hs, by rw [Blk.ro_putA]; exact hr, gets_putA_app hg (by omega)⟩, by simp, fun b _ hne => by rw [w_set_ne hlt hne], fun b hb' => .inl (by simpa using hb')⟩
    · rw [w_ble_f (by omega)]
      simp only [firstV, hb]
      rw [w_ble_t (by omega)]
      simp only [Nat.mul_one, hg]
      rw [w_beq_t rfl, w_ble_t (by omega), w_ble_t (by omega)]
      have hne : l ++ news ≠ [] := fun e => by have := congrArg List.length e; simp only [List.length_append, List.length_nil] at this; omega
      refine ⟨_, _, _, _, rfl, .inr (.inr ⟨h.n, false, Blk.of (l ++ news), hne, by rw [List.length_append], hn2, by rw [w_push_eq rfl], rfl, rfl, gets_all _ rfl⟩), by simp, fun b hb' _ => by rw [w_push_ne (by omega)], fun b hb => by cases hb⟩
  · obtain ⟨v', h', r, w, e, o, hn, hk, hw⟩ := app_own (e := 5) (bytes := 1) ho hn2 hx hf h1 (by omega) (by omega)
    exact ⟨v', h', r, w, e, .inr o, hn, fun b hb _ => hk b hb, fun b hb => .inr (hw b hb)⟩
theorem BufAt.lv {nb n2 : Nat} {g : Heap} {v : V} {l : List V} (hb : BufAt nb n2 g v l) : LV g v l := by
  rcases hb with ⟨hl, c, rfl, hb, hs, hr, hg⟩ | ho
  · exact .inr ⟨nb, 0, 64, true, c, 5, rfl, hb, by omega, hg⟩
  · exact ho.lv
theorem BufAt.old {nb n2 : Nat} {g g' : Heap} {v : V} {l : List V} (hb : BufAt nb n2 g v l) (hk : ∀ b, b < g.n → g'.get b = g.get b) : BufAt nb n2 g' v l := by
  rcases hb with ⟨hl, c, rfl, hb, hs⟩ | ho
  · exact .inl ⟨hl, c, rfl, by rw [hk _ (Heap.lt_of_get hb)]; exact hb, hs⟩
  · exact .inr (ho.old hk)
set_option maxHeartbeats 8000000 in
theorem buf_loop {H g0 : Heap} {Q' : Ex → Fr → Heap → Prop} {t : List It} {nb n2 k : Nat} {v0 x5 x9 x12 : V} (hnb : nb < n2) (hn2 : n2 ≤ g0.n) (hHb : H.n ≤ nb) (hb0 : BufAt nb n2 g0 v0 []) (hk1 : k ≤ 1023)
    (hk : ∀ tr g v l, tr.get 5 = some x5 → tr.get 9 = some x9 → tr.get 12 = some x12 → tr.get 13 = some (.int .i64 (k : Int)) → tr.get 11 = some v → BufAt nb n2 g v l → l.length = k → BytL l → n2 ≤ g.n → (∀ b, b < n2 → b ≠ nb → g.get b = g0.get b) → resume (Try.prog : MP) (fun _ => True) (fun b => H.n ≤ b ∨ WH H b) none Q' t (.exit 2) ⟨⟨122, tr⟩, []⟩ g)
    {tr : Tr V} (t5 : tr.get 5 = some x5) (t9 : tr.get 9 = some x9) (t12 : tr.get 12 = some x12) (t13 : tr.get 13 = some (.int .i64 (k : Int))) (t11 : tr.get 11 = some v0) : GLoop (Try.prog : MP) (fun _ => True) (fun b => H.n ≤ b ∨ WH H b) none Q' ir4_l1 t ⟨⟨122, tr⟩, []⟩ g0 := by
  refine GLoop.inv hm (fun j f g => f.mks = [] ∧ f.tm.n = 122 ∧ f.tm.get 5 = some x5 ∧ f.tm.get 9 = some x9 ∧ f.tm.get 12 = some x12 ∧ f.tm.get 13 = some (.int .i64 (k : Int)) ∧ ∃ (v : V) (l : List V), f.tm.get 11 = some v ∧ BufAt nb n2 g v l ∧ l.length + j = k ∧ BytL l ∧ n2 ≤ g.n ∧ (∀ b, b < n2 → b ≠ nb → g.get b = g0.get b)) k ?_ ?_
  · exact ⟨rfl, rfl, t5, t9, t12, t13, v0, [], t11, hb0, by simp, fun i hi => by simp at hi, hn2, fun _ _ _ => rfl⟩
  clear t5 t9 t12 t13 t11
  clear tr
  rintro j ⟨⟨n', tr⟩, mks⟩ g ⟨hmk, hn', t5, t9, t12, t13, v, l, t11, hb, hl, hbt, hgn, hold⟩
  simp only [Tm.get_mk] at hmk hn' t5 t9 t12 t13 t11
  subst hmk hn'
  have hlen := hb.lv.len23
  by_cases hin : l.length < k
  · simp -implicitDefEqProofs (disch := (first | omega | fail)) only [go_sem, seval, ↓reduceIte, ir4_l1, t5, t9, t12, t13, t11, ↓hlen, ↓cv3_5, c3_5]
    have u8 : ∃ m : Int, V.int .u8 (IntKind.u8.wrap (l.length : Int)) = .int .u8 m ∧ 0 ≤ m ∧ m ≤ 255 := ⟨_, rfl, by simp only [IntKind.wrap, IntKind.signed, IntKind.bits]; simp; omega, by simp only [IntKind.wrap, IntKind.signed, IntKind.bits]; simp; omega⟩
    obtain ⟨m, em, hm1⟩ := u8
    rw [em]
    obtain ⟨v', g', r', w', hap, hb', hn', hk', hw'⟩ := app_buf (news := [.int .u8 m]) (h := g.push (.cells (Blk.of [.int .u8 m]) 5)) (x := .slice (some (g.n, 0)) 1 1 true) (hb.old fun b hb => w_push_ne (by omega) _) hnb (by simp only [Heap.n_push]; omega) rfl (first_one (w_push_eq rfl _)) rfl (by simp only [List.length_cons, List.length_nil]; omega)
    rw [appendV_of ap_23, hap]
    simp only [Heap.n_push] at hn'
    refine ⟨allB_of fun _ _ => trivial, allB_of fun b hb => by rcases hw' b hb with rfl | h; exact .inl hHb; exact .inl (by omega), j - 1, by omega, ?_⟩
    refine ⟨v', l ++ [.int .u8 m], rfl, hb', by rw [List.length_append]; simp only [List.length_cons, List.length_nil]; omega, hbt.app (fun i hi => ?_), (show n2 ≤ g'.n by omega), fun b hb hne => by rw [hk' b hb hne, w_push_ne (by omega)]; exact hold b hb hne⟩
    obtain rfl : i = 0 := by simp at hi; exact hi
    exact ⟨m, rfl, hm1⟩
  · have : l.length = k := by omega
    simp -implicitDefEqProofs (disch := (first | omega | fail)) only [go_sem, seval, ↓reduceIte, ir4_l1, t13, t11, ↓hlen]
    exact hk _ g v l (by simp -implicitDefEqProofs (disch := (first | omega | fail)) only [go_sem, seval, ↓reduceIte, t5]) (by simp -implicitDefEqProofs (disch := (first | omega | fail)) only [go_sem, seval, ↓reduceIte, t9]) (by simp -implicitDefEqProofs (disch := (first | omega | fail)) only [go_sem, seval, ↓reduceIte, t12]) (by simp -implicitDefEqProofs (disch := (first | omega | fail)) only [go_sem, seval, ↓reduceIte, t13]) (by simp -implicitDefEqProofs (disch := (first | omega | fail)) only [go_sem, seval, ↓reduceIte, t11]) hb this hbt hgn hold
set_option maxHeartbeats 8000000 in
theorem ints_loop {H g0 : Heap} {Q' : Ex → Fr → Heap → Prop} {t : List It} {n2 : Nat} {x2 x3 x4 x5 : V} (hn2 : n2 ≤ g0.n) (hH : H.n ≤ n2)
    (hk : ∀ tr g v, tr.get 2 = some x2 → tr.get 3 = some x3 → tr.get 4 = some x4 → tr.get 5 = some x5 → tr.get 9 = some v → Own n2 g v (List.replicate 32 (.int .i64 7)) 3 → n2 ≤ g.n → (∀ b, b < n2 → g.get b = g0.get b) → resume (Try.prog : MP) (fun _ => True) (fun b => H.n ≤ b ∨ WH H b) none Q' t (.exit 0) ⟨⟨122, tr⟩, []⟩ g)
    {tr : Tr V} (t2 : tr.get 2 = some x2) (t3 : tr.get 3 = some x3) (t4 : tr.get 4 = some x4) (t5 : tr.get 5 = some x5) (t9 : tr.get 9 = some (.slice none 0 0 true)) (t10 : tr.get 10 = some (.int .i64 0)) : GLoop (Try.prog : MP) (fun _ => True) (fun b => H.n ≤ b ∨ WH H b) none Q' ir4_l0 t ⟨⟨122, tr⟩, []⟩ g0 := by
  refine GLoop.inv hm (fun j f g => f.mks = [] ∧ f.tm.n = 122 ∧ f.tm.get 2 = some x2 ∧ f.tm.get 3 = some x3 ∧ f.tm.get 4 = some x4 ∧ f.tm.get 5 = some x5 ∧ ∃ (i : Nat) (v : V), i + j = 32 ∧ f.tm.get 10 = some (.int .i64 (i : Int)) ∧ f.tm.get 9 = some v ∧ Own n2 g v (List.replicate i (.int .i64 7)) 3 ∧ n2 ≤ g.n ∧ (∀ b, b < n2 → g.get b = g0.get b)) 32 ?_ ?_
  · exact ⟨rfl, rfl, t2, t3, t4, t5, 0, _, rfl, t10, t9, .inl ⟨rfl, .inl rfl⟩, hn2, fun _ _ => rfl⟩
  clear t2 t3 t4 t5 t9 t10
  clear tr
  rintro j ⟨⟨n', tr⟩, mks⟩ g ⟨hmk, hn', t2, t3, t4, t5, i, v, hij, t10, t9, ho, hgn, hold⟩
  simp only [Tm.get_mk] at hmk hn' t2 t3 t4 t5 t9 t10
  subst hmk hn'
  by_cases hin : i < 32
  · obtain ⟨v', g', r', w', hap, ho', hn', hk', hw'⟩ := app_own (e := 3) (bytes := 8) (news := [.int .i64 7]) (h := g.push (.cells (Blk.of [.int .i64 7]) 3)) (x := .slice (some (g.n, 0)) 1 1 true) (ho.old fun b hb => w_push_ne (by omega) _) (by simp only [Heap.n_push]; omega) rfl (first_one (w_push_eq rfl _)) rfl (by simp only [List.length_cons, List.length_nil, List.length_replicate]; omega) (by simp only [List.length_cons, List.length_nil, List.length_replicate]; omega)
    rw [← List.replicate_succ'] at ho'
    simp only [Heap.n_push] at hn'
    simp -implicitDefEqProofs (disch := (first | omega | fail)) only [go_sem, seval, ↓reduceIte, ir4_l0, t2, t3, t4, t5, t9, t10, appendV_of ap_24, hap]
    refine ⟨allB_of fun _ _ => trivial, allB_of fun b hb => .inl (by have := hw' b hb; omega), j - 1, by omega, i + 1, v', by omega, congrArg _ (by omega), rfl, ho', (show n2 ≤ g'.n by omega), fun b hb => by rw [hk' b hb, w_push_ne (by omega)]; exact hold b hb⟩
  · obtain rfl : i = 32 := by omega
    simp -implicitDefEqProofs (disch := (first | omega | fail)) only [go_sem, seval, ↓reduceIte, ir4_l0, t10]
    exact hk _ g v (by simp -implicitDefEqProofs (disch := (first | omega | fail)) only [go_sem, seval, ↓reduceIte, t2]) (by simp -implicitDefEqProofs (disch := (first | omega | fail)) only [go_sem, seval, ↓reduceIte, t3]) (by simp -implicitDefEqProofs (disch := (first | omega | fail)) only [go_sem, seval, ↓reduceIte, t4]) (by simp -implicitDefEqProofs (disch := (first | omega | fail)) only [go_sem, seval, ↓reduceIte, t5]) (by simp -implicitDefEqProofs (disch := (first | omega | fail)) only [go_sem, seval, ↓reduceIte, t9]) ho hgn hold
end Go.Proofs.Ytmkdbninmimndaa
