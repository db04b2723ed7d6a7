/- Step's ops on memory (printed by genE7.py). -/
import Derived.Test.YtmkdbninmimndaaE6
set_option linter.unusedVariables false
set_option maxRecDepth 100000
namespace Go.Proofs.Ytmkdbninmimndaa
open Go Go.Vm
variable {h0 g : Heap} {tr : Tr V} {xp ip fp n0 nops N : Nat} {opsv : V} {L Q : List V} {q : Nat → Int} {rs : Regs} {pc : BitVec 32} {op d a b : Nat} {m : Int} {W : Set'}
theorem fst_len {q : Nat → Int} {L : List V} {r : Int} {x k : Nat} (h : fst (fun x => mayB q L.length x r) x 0 (k + 1) = none) : ∀ j, j < k + 1 → ad x j < L.length := by
  intro j hj
  have := fst_all h j hj
  unfold mayB at this
  rw [Nat.zero_add] at this
  simp at this
  exact this.1.2.2
theorem FlatAt.fblk_ne {h : Heap} {fp n0 xp : Nat} {L Q : List V} {q : Nat → Int} {c : Blk} (hf : FlatAt h fp n0 L Q q) (hx : h.get xp = some (.cells c 72)) (hL : 0 < L.length) : xp ≠ fblk h fp := by
  obtain ⟨cc, vb, vr, c1, cs, cr, c0, c1', ob, or'⟩ := hf.c
  obtain ⟨b, x, cq, rfl, _, hb, _⟩ := ob.get hL
  have : fblk h fp = b := by unfold fblk; rw [c1]; simp only [c0]
  rw [this]
  intro e
  rw [e, hb] at hx
  simp at hx
theorem fblk_eq {h h' : Heap} {fp : Nat} (hk : h'.get fp = h.get fp) : fblk h' fp = fblk h fp := by unfold fblk; rw [hk]
theorem toNat_wN {L : List V} (hb : BytL L) (x : Nat) : ((wN L x : Nat) : Int) = ((BitVec.ofNat 32 (wN L x)).toNat : Int) := by
  rw [BitVec.toNat_ofNat, Nat.mod_eq_of_lt (show wN L x < 2 ^ 32 from wd_lt fun i _ => (bN_eq hb _).2)]
theorem toNat_bN {L : List V} (hb : BytL L) (x : Nat) : ((bN L x : Nat) : Int) = ((BitVec.ofNat 32 (bN L x)).toNat : Int) := by
  have := (bN_eq hb x).2
  rw [BitVec.toNat_ofNat, Nat.mod_eq_of_lt (by omega)]
theorem LV_three {h : Heap} : LV (h.push (.cells (Blk.of [.int .u8 0, .int .u8 0, .int .u8 0]) 5)) (.slice (some (h.n, 0)) 3 3 true) [.int .u8 0, .int .u8 0, .int .u8 0] := .inr ⟨h.n, 0, 3, true, _, 5, rfl, w_push_eq rfl _, by decide, rfl⟩
theorem u8_mod (n : Nat) : IntKind.u8.wrap (n : Int) = ((n % 256 : Nat) : Int) := by
  simp only [IntKind.wrap, IntKind.signed, IntKind.bits]
  simp
set_option maxHeartbeats 4000000 in
theorem ex_19 (C : Ctx tr g xp ip fp n0 nops N opsv L Q q rs pc 19 d a b m W) (hfp : h0.get fp = g.get fp) : Goal27 h0 g tr xp fp n0 L Q q rs pc W (execO q L rs pc 19 d a b m) := by
  unfold Goal27 execO
  obtain ⟨ci, i0, i1, i2, i3⟩ := C.i
  obtain ⟨c, x0, xc⟩ := C.x
  have hs := xc.size; have hr := xc.ro
  have t0 := C.t0; have t1 := C.t1; have t8 := C.t8; have t10 := C.t10; have t11 := C.t11; have t12 := C.t12; have t13 := C.t13; have t14 := C.t14; have t15 := C.t15; have t16 := C.t16
  have hd := C.d16; have Wx := C.Wx
  have hd23 : d < 23 := by omega
  have hrd := xc.reg d hd
  have hmem := xc.mem
  have him := i_im m
  have him2 := i_im2 m
  obtain ⟨ltN, ltip, ltn0⟩ := C.lt
  have hpn : ∀ b, g.n ≤ b → W b := fun b hb => C.Wn b (by omega)
  have hxl := Heap.lt_of_get x0
  have hbyt : BytL L := C.f.byt
  simp only [Nat.reduceEqDiff, if_false, if_true]
  simp -implicitDefEqProofs (disch := (first | omega | fail)) only [go_sem, seval, ↓reduceIte, reduceCtorEq, ir27_r10_eq, ir27_s10, t0, t8, t16, i0, i1, i2, x0, hs, hmem]
  refine GCall.of ((load_ok (R := fun _ => True) (W := fun _ => False) C.f (fun _ => trivial) (a := (rs a + imW m).toNat) (n := 4) (by omega) 1).kept.foot (fun _ h => h) (fun _ h => h.elim)) ?_
  rintro r g1 ⟨⟨x, e, rfl, rfl⟩ | ⟨e, s, rfl, ho, hk⟩, vf⟩
  · rw [e]
    simp -implicitDefEqProofs (disch := (first | omega | fail)) only [go_sem, seval, ↓reduceIte, reduceCtorEq, t0]
    refine GCall.of (fault46_ok x0 xc x 1 Wx) ?_
    rintro r g2 ⟨rfl, hst⟩
    simp -implicitDefEqProofs (disch := (first | omega | fail)) only [go_sem, seval, ↓reduceIte]
    exact hst.fin x0 C.f C.ne hfp
  · rw [e]
    have hgn := vf.n
    have hgl := gets_len L (rs a + imW m).toNat 4
    obtain ⟨hx3, rs3, hf3⟩ := first_lv (LV_three (h := g1))
    obtain ⟨v', h', r', w', hap, o2, m2, k2, hw2⟩ := app_own (h := g1.push (.cells (Blk.of [.int .u8 0, .int .u8 0, .int .u8 0]) 5)) (bytes := 1) (ho.old fun b hb => by simp -implicitDefEqProofs (disch := (first | omega | fail)) only [go_sem, seval]) (by simp; omega) hx3 hf3 rfl (by rw [hgl]; simp) (by rw [hgl]; simp)
    have hr0 : allB (fun _ => True) r' := allB_of fun b _ => trivial
    have hw0 : allB W w' := allB_of fun b hb => hpn b (hw2 b hb)
    have hpn1 := hpn g1.n (by omega)
    simp -implicitDefEqProofs (disch := (first | omega | fail)) only [go_sem, seval, ↓reduceIte, t11, appendV_of ap_23, hap, hr0, hw0]
    have old : ∀ b, b < g.n → h'.get b = g.get b := fun b hb => by rw [k2 b hb, w_push_ne (by omega)]; exact hk b hb
    refine GCall.of (word48_ok (R := fun _ => True) (W := W) (f := fun i => bN L (ad (rs a + imW m).toNat i)) o2.lv (by rw [List.length_append, hgl]; simp) (fun i hi => ?_) (fun i hi => ?_) fun _ _ => trivial) ?_
    · rw [List.getElem?_append_left (by rw [hgl]; exact hi), gets_at hi, (bN_eq hbyt _).1]
    · exact (bN_eq hbyt _).2
    rintro r g2 ⟨rfl, rfl⟩
    have hwd : ((wd fun i => bN L (ad (rs a + imW m).toNat i) : Nat) : Int) = ((BitVec.ofNat 32 (wN L (rs a + imW m).toNat)).toNat : Int) := toNat_wN hbyt _
    rw [hwd]
    have x1 := (old xp hxl).trans x0
    simp -implicitDefEqProofs (disch := (first | omega | fail)) only [go_sem, seval, ↓reduceIte, undefV, x1, hs, hr, Wx]
    refine tail27 (w_set_eq (Heap.lt_of_get x1) rfl _) (xc.setR hd _) ((C.f.old old).keep72 (set72 x1)) ?_ C.ne Wx ?_ ?_
    · rw [w_set_ne (Heap.lt_of_get x1) C.ne, old fp (by obtain ⟨_, _, _, c1, _⟩ := C.f.c; exact Heap.lt_of_get c1)]; exact hfp
    · simp -implicitDefEqProofs (disch := (first | omega | fail)) only [go_sem, seval, ↓reduceIte, t10]
    · simp -implicitDefEqProofs (disch := (first | omega | fail)) only [go_sem, seval, ↓reduceIte, t14]
set_option maxHeartbeats 4000000 in
theorem ex_21 (C : Ctx tr g xp ip fp n0 nops N opsv L Q q rs pc 21 d a b m W) (hfp : h0.get fp = g.get fp) : Goal27 h0 g tr xp fp n0 L Q q rs pc W (execO q L rs pc 21 d a b m) := by
  unfold Goal27 execO
  obtain ⟨ci, i0, i1, i2, i3⟩ := C.i
  obtain ⟨c, x0, xc⟩ := C.x
  have hs := xc.size; have hr := xc.ro
  have t0 := C.t0; have t1 := C.t1; have t8 := C.t8; have t10 := C.t10; have t11 := C.t11; have t12 := C.t12; have t13 := C.t13; have t14 := C.t14; have t15 := C.t15; have t16 := C.t16
  have hd := C.d16; have Wx := C.Wx
  have hd23 : d < 23 := by omega
  have hrd := xc.reg d hd
  have hmem := xc.mem
  have him := i_im m
  have him2 := i_im2 m
  obtain ⟨ltN, ltip, ltn0⟩ := C.lt
  have hpn : ∀ b, g.n ≤ b → W b := fun b hb => C.Wn b (by omega)
  have hxl := Heap.lt_of_get x0
  have hbyt : BytL L := C.f.byt
  simp only [Nat.reduceEqDiff, if_false, if_true]
  simp -implicitDefEqProofs (disch := (first | omega | fail)) only [go_sem, seval, ↓reduceIte, reduceCtorEq, ir27_r10_eq, ir27_s10, t0, t8, t16, i0, i1, i2, x0, hs, hmem]
  refine GCall.of ((load_ok (R := fun _ => True) (W := fun _ => False) C.f (fun _ => trivial) (a := (rs a + imW m).toNat) (n := 1) (by omega) 1).kept.foot (fun _ h => h) (fun _ h => h.elim)) ?_
  rintro r g1 ⟨⟨x, e, rfl, rfl⟩ | ⟨e, s, rfl, ho, hk⟩, vf⟩
  · rw [e]
    simp -implicitDefEqProofs (disch := (first | omega | fail)) only [go_sem, seval, ↓reduceIte, reduceCtorEq, t0]
    refine GCall.of (fault46_ok x0 xc x 1 Wx) ?_
    rintro r g2 ⟨rfl, hst⟩
    simp -implicitDefEqProofs (disch := (first | omega | fail)) only [go_sem, seval, ↓reduceIte]
    exact hst.fin x0 C.f C.ne hfp
  · rw [e]
    have hgn := vf.n
    have hgl := gets_len L (rs a + imW m).toNat 1
    obtain ⟨hx3, rs3, hf3⟩ := first_lv (LV_three (h := g1))
    obtain ⟨v', h', r', w', hap, o2, m2, k2, hw2⟩ := app_own (h := g1.push (.cells (Blk.of [.int .u8 0, .int .u8 0, .int .u8 0]) 5)) (bytes := 1) (ho.old fun b hb => by simp -implicitDefEqProofs (disch := (first | omega | fail)) only [go_sem, seval]) (by simp; omega) hx3 hf3 rfl (by rw [hgl]; simp) (by rw [hgl]; simp)
    have hr0 : allB (fun _ => True) r' := allB_of fun b _ => trivial
    have hw0 : allB W w' := allB_of fun b hb => hpn b (hw2 b hb)
    have hpn1 := hpn g1.n (by omega)
    simp -implicitDefEqProofs (disch := (first | omega | fail)) only [go_sem, seval, ↓reduceIte, t11, appendV_of ap_23, hap, hr0, hw0]
    have old : ∀ b, b < g.n → h'.get b = g.get b := fun b hb => by rw [k2 b hb, w_push_ne (by omega)]; exact hk b hb
    refine GCall.of (word48_ok (R := fun _ => True) (W := W) (f := fun i => if i = 0 then bN L (ad (rs a + imW m).toNat 0) else 0) o2.lv (by rw [List.length_append, hgl]; simp) (fun i hi => ?_) (fun i hi => ?_) fun _ _ => trivial) ?_
    · rcases (show i = 0 ∨ i = 1 ∨ i = 2 ∨ i = 3 by omega) with rfl | rfl | rfl | rfl
      · rw [List.getElem?_append_left (by rw [hgl]; omega), gets_at (by omega), (bN_eq hbyt _).1]; rfl
      all_goals (rw [List.getElem?_append_right (by rw [hgl]; omega), hgl]; rfl)
    · have := (bN_eq hbyt (ad (rs a + imW m).toNat 0)).2
      split <;> omega
    rintro r g2 ⟨rfl, rfl⟩
    have had : ad (rs a + imW m).toNat 0 = (rs a + imW m).toNat := by unfold ad; rw [Nat.add_zero]; exact Nat.mod_eq_of_lt (rs a + imW m).isLt
    have hwd : ((wd fun i => if i = 0 then bN L (ad (rs a + imW m).toNat 0) else 0 : Nat) : Int) = ((BitVec.ofNat 32 (bN L (rs a + imW m).toNat)).toNat : Int) := by
      rw [← toNat_bN hbyt, had]; unfold wd; simp
    rw [hwd]
    have x1 := (old xp hxl).trans x0
    simp -implicitDefEqProofs (disch := (first | omega | fail)) only [go_sem, seval, ↓reduceIte, undefV, x1, hs, hr, Wx]
    refine tail27 (w_set_eq (Heap.lt_of_get x1) rfl _) (xc.setR hd _) ((C.f.old old).keep72 (set72 x1)) ?_ C.ne Wx ?_ ?_
    · rw [w_set_ne (Heap.lt_of_get x1) C.ne, old fp (by obtain ⟨_, _, _, c1, _⟩ := C.f.c; exact Heap.lt_of_get c1)]; exact hfp
    · simp -implicitDefEqProofs (disch := (first | omega | fail)) only [go_sem, seval, ↓reduceIte, t10]
    · simp -implicitDefEqProofs (disch := (first | omega | fail)) only [go_sem, seval, ↓reduceIte, t14]
set_option maxHeartbeats 4000000 in
theorem ex_20 (C : Ctx tr g xp ip fp n0 nops N opsv L Q q rs pc 20 d a b m W) (hfp : h0.get fp = g.get fp) : Goal27 h0 g tr xp fp n0 L Q q rs pc W (execO q L rs pc 20 d a b m) := by
  unfold Goal27 execO
  obtain ⟨ci, i0, i1, i2, i3⟩ := C.i
  obtain ⟨c, x0, xc⟩ := C.x
  have hs := xc.size; have hr := xc.ro
  have t0 := C.t0; have t1 := C.t1; have t8 := C.t8; have t10 := C.t10; have t11 := C.t11; have t12 := C.t12; have t13 := C.t13; have t14 := C.t14; have t15 := C.t15; have t16 := C.t16
  have hd := C.d16; have Wx := C.Wx
  have hd23 : d < 23 := by omega
  have hrd := xc.reg d hd
  have hmem := xc.mem
  have him := i_im m
  have him2 := i_im2 m
  obtain ⟨ltN, ltip, ltn0⟩ := C.lt
  have hpn : ∀ b, g.n ≤ b → W b := fun b hb => C.Wn b (by omega)
  have hxl := Heap.lt_of_get x0
  have hbyt : BytL L := C.f.byt
  simp only [Nat.reduceEqDiff, if_false, if_true]
  obtain ⟨y0, hy0⟩ : ∃ y : Nat, y = (rs d).toNat / 256 ^ 0 % 256 := ⟨_, rfl⟩
  obtain ⟨y1, hy1⟩ : ∃ y : Nat, y = (rs d).toNat / 256 ^ 1 % 256 := ⟨_, rfl⟩
  obtain ⟨y2, hy2⟩ : ∃ y : Nat, y = (rs d).toNat / 256 ^ 2 % 256 := ⟨_, rfl⟩
  obtain ⟨y3, hy3⟩ : ∃ y : Nat, y = (rs d).toNat / 256 ^ 3 % 256 := ⟨_, rfl⟩
  have s1 : intShift .shr .u32 ((rs d).toNat : Int) 8 = some (U (rs d >>> 8)) := b_shr _ 8
  have s2 : intShift .shr .u32 ((rs d).toNat : Int) 16 = some (U (rs d >>> 16)) := b_shr _ 16
  have s3 : intShift .shr .u32 ((rs d).toNat : Int) 24 = some (U (rs d >>> 24)) := b_shr _ 24
  have z0 : IntKind.u8.wrap ((rs d).toNat : Int) = (y0 : Int) := by rw [u8_mod, hy0]; simp
  have z1 : IntKind.u8.wrap ((rs d >>> 8).toNat : Int) = (y1 : Int) := by rw [u8_mod, hy1, BitVec.toNat_ushiftRight, Nat.shiftRight_eq_div_pow]
  have z2 : IntKind.u8.wrap ((rs d >>> 16).toNat : Int) = (y2 : Int) := by rw [u8_mod, hy2, BitVec.toNat_ushiftRight, Nat.shiftRight_eq_div_pow]
  have z3 : IntKind.u8.wrap ((rs d >>> 24).toNat : Int) = (y3 : Int) := by rw [u8_mod, hy3, BitVec.toNat_ushiftRight, Nat.shiftRight_eq_div_pow]
  have hpg := hpn g.n (Nat.le_refl _)
  have hil := Heap.lt_of_get i0
  have hine : ip ≠ g.n := by omega
  have hxne : xp ≠ g.n := by omega
  simp -implicitDefEqProofs (disch := (first | omega | fail)) only [go_sem, seval, ↓reduceIte, reduceCtorEq, ir27_r10_eq, ir27_s10, t0, t8, t11, t16, i0, i1, i2, x0, hs, hrd, hmem, ↓cvd25_5, c25_5, ↓s1, ↓s2, ↓s3, z0, z1, z2, z3]
  have hbl := C.f.fblk_lt
  have hf1 : FlatAt (g.push (.cells (Blk.of [.int .u8 (y0 : Int), .int .u8 (y1 : Int), .int .u8 (y2 : Int), .int .u8 (y3 : Int)]) 5)) fp n0 L Q q := C.f.old fun b hb => w_push_ne (by omega) _
  have x1 : (g.push (.cells (Blk.of [.int .u8 (y0 : Int), .int .u8 (y1 : Int), .int .u8 (y2 : Int), .int .u8 (y3 : Int)]) 5)).get xp = some (.cells c 72) := (w_push_ne (by omega) _).trans x0
  have hfl : fp < g.n := by obtain ⟨_, _, _, c1, _⟩ := C.f.c; exact Heap.lt_of_get c1
  have hfb : fblk (g.push (.cells (Blk.of [.int .u8 (y0 : Int), .int .u8 (y1 : Int), .int .u8 (y2 : Int), .int .u8 (y3 : Int)]) 5)) fp = fblk g fp := fblk_eq (w_push_ne (by omega) _)
  have hfp1 : h0.get fp = (g.push (.cells (Blk.of [.int .u8 (y0 : Int), .int .u8 (y1 : Int), .int .u8 (y2 : Int), .int .u8 (y3 : Int)]) 5)).get fp := by rw [w_push_ne (by omega)]; exact hfp
  have hbb : bytes4 (rs d) = [.int .u8 (y0 : Int), .int .u8 (y1 : Int), .int .u8 (y2 : Int), .int .u8 (y3 : Int)] := by unfold bytes4 byteAt; rw [← hy0, ← hy1, ← hy2, ← hy3]
  have hby : Byt (bytes4 (rs d)) := by
    rw [hbb]
    intro v hv
    simp only [List.mem_cons, List.not_mem_nil, or_false] at hv
    rcases hv with rfl | rfl | rfl | rfl <;> exact ⟨_, rfl, by omega, by omega⟩
  refine GCall.of ((store_ok (R := fun _ => True) (l := bytes4 (rs d)) hf1 (fun _ => trivial) (a := (rs a + imW m).toNat) (by rw [hbb]; simp) hby (fun g' hg' => ?_)).foot (fun _ h => h) (fun b h => C.Wm b (by rw [← hfb]; exact h.1) h.2)) ?_
  · rw [hbb]
    exact .inr ⟨g.n, 0, 4, true, _, 5, rfl, by rw [hg' g.n (by rw [hfb]; omega)]; exact w_push_eq rfl _, by simp [Blk.of], by rfl⟩
  rw [show (bytes4 (rs d)).length = 4 by rw [hbb]; rfl]
  rintro r g1 (⟨x, e, rfl, rfl⟩ | ⟨e, rfl, hf2, hn2, hfp2, hk2⟩)
  · rw [e]
    simp -implicitDefEqProofs (disch := (first | omega | fail)) only [go_sem, seval, ↓reduceIte, reduceCtorEq, t0]
    refine GCall.of (fault46_ok x1 xc x 2 Wx) ?_
    rintro r g2 ⟨rfl, hst⟩
    simp -implicitDefEqProofs (disch := (first | omega | fail)) only [go_sem, seval, ↓reduceIte]
    exact hst.fin x1 hf1 C.ne hfp1
  · rw [e]
    have hL : 0 < L.length := Nat.lt_of_le_of_lt (Nat.zero_le _) (fst_len e 0 (by omega))
    have x2 := (hk2 xp (hf1.fblk_ne x1 hL)).trans x1
    simp -implicitDefEqProofs (disch := (first | omega | fail)) only [go_sem, seval, ↓reduceIte]
    refine tail27 x2 xc hf2 (by rw [hfp2]; exact hfp1) C.ne Wx ?_ ?_
    · simp -implicitDefEqProofs (disch := (first | omega | fail)) only [go_sem, seval, ↓reduceIte, t10]
    · simp -implicitDefEqProofs (disch := (first | omega | fail)) only [go_sem, seval, ↓reduceIte, t14]
set_option maxHeartbeats 4000000 in
theorem ex_22 (C : Ctx tr g xp ip fp n0 nops N opsv L Q q rs pc 22 d a b m W) (hfp : h0.get fp = g.get fp) : Goal27 h0 g tr xp fp n0 L Q q rs pc W (execO q L rs pc 22 d a b m) := by
  unfold Goal27 execO
  obtain ⟨ci, i0, i1, i2, i3⟩ := C.i
  obtain ⟨c, x0, xc⟩ := C.x
  have hs := xc.size; have hr := xc.ro
  have t0 := C.t0; have t1 := C.t1; have t8 := C.t8; have t10 := C.t10; have t11 := C.t11; have t12 := C.t12; have t13 := C.t13; have t14 := C.t14; have t15 := C.t15; have t16 := C.t16
  have hd := C.d16; have Wx := C.Wx
  have hd23 : d < 23 := by omega
  have hrd := xc.reg d hd
  have hmem := xc.mem
  have him := i_im m
  have him2 := i_im2 m
  obtain ⟨ltN, ltip, ltn0⟩ := C.lt
  have hpn : ∀ b, g.n ≤ b → W b := fun b hb => C.Wn b (by omega)
  have hxl := Heap.lt_of_get x0
  have hbyt : BytL L := C.f.byt
  simp only [Nat.reduceEqDiff, if_false, if_true]
  obtain ⟨y0, hy0⟩ : ∃ y : Nat, y = (rs d).toNat / 256 ^ 0 % 256 := ⟨_, rfl⟩
  obtain ⟨y1, hy1⟩ : ∃ y : Nat, y = (rs d).toNat / 256 ^ 1 % 256 := ⟨_, rfl⟩
  obtain ⟨y2, hy2⟩ : ∃ y : Nat, y = (rs d).toNat / 256 ^ 2 % 256 := ⟨_, rfl⟩
  obtain ⟨y3, hy3⟩ : ∃ y : Nat, y = (rs d).toNat / 256 ^ 3 % 256 := ⟨_, rfl⟩
  have s1 : intShift .shr .u32 ((rs d).toNat : Int) 8 = some (U (rs d >>> 8)) := b_shr _ 8
  have s2 : intShift .shr .u32 ((rs d).toNat : Int) 16 = some (U (rs d >>> 16)) := b_shr _ 16
  have s3 : intShift .shr .u32 ((rs d).toNat : Int) 24 = some (U (rs d >>> 24)) := b_shr _ 24
  have z0 : IntKind.u8.wrap ((rs d).toNat : Int) = (y0 : Int) := by rw [u8_mod, hy0]; simp
  have z1 : IntKind.u8.wrap ((rs d >>> 8).toNat : Int) = (y1 : Int) := by rw [u8_mod, hy1, BitVec.toNat_ushiftRight, Nat.shiftRight_eq_div_pow]
  have z2 : IntKind.u8.wrap ((rs d >>> 16).toNat : Int) = (y2 : Int) := by rw [u8_mod, hy2, BitVec.toNat_ushiftRight, Nat.shiftRight_eq_div_pow]
  have z3 : IntKind.u8.wrap ((rs d >>> 24).toNat : Int) = (y3 : Int) := by rw [u8_mod, hy3, BitVec.toNat_ushiftRight, Nat.shiftRight_eq_div_pow]
  have hpg := hpn g.n (Nat.le_refl _)
  have hil := Heap.lt_of_get i0
  have hine : ip ≠ g.n := by omega
  have hxne : xp ≠ g.n := by omega
  simp -implicitDefEqProofs (disch := (first | omega | fail)) only [go_sem, seval, ↓reduceIte, reduceCtorEq, ir27_r10_eq, ir27_s10, t0, t8, t11, t16, i0, i1, i2, x0, hs, hrd, hmem, ↓cvd25_5, c25_5, ↓s1, ↓s2, ↓s3, z0, z1, z2, z3]
  have hbl := C.f.fblk_lt
  have hf1 : FlatAt (g.push (.cells (Blk.of [.int .u8 (y0 : Int), .int .u8 (y1 : Int), .int .u8 (y2 : Int), .int .u8 (y3 : Int)]) 5)) fp n0 L Q q := C.f.old fun b hb => w_push_ne (by omega) _
  have x1 : (g.push (.cells (Blk.of [.int .u8 (y0 : Int), .int .u8 (y1 : Int), .int .u8 (y2 : Int), .int .u8 (y3 : Int)]) 5)).get xp = some (.cells c 72) := (w_push_ne (by omega) _).trans x0
  have hfl : fp < g.n := by obtain ⟨_, _, _, c1, _⟩ := C.f.c; exact Heap.lt_of_get c1
  have hfb : fblk (g.push (.cells (Blk.of [.int .u8 (y0 : Int), .int .u8 (y1 : Int), .int .u8 (y2 : Int), .int .u8 (y3 : Int)]) 5)) fp = fblk g fp := fblk_eq (w_push_ne (by omega) _)
  have hfp1 : h0.get fp = (g.push (.cells (Blk.of [.int .u8 (y0 : Int), .int .u8 (y1 : Int), .int .u8 (y2 : Int), .int .u8 (y3 : Int)]) 5)).get fp := by rw [w_push_ne (by omega)]; exact hfp
  have hbb : [byteAt (rs d) 0] = [.int .u8 (y0 : Int)] := by unfold byteAt; rw [← hy0]
  have hby : Byt ([byteAt (rs d) 0]) := by
    rw [hbb]
    intro v hv
    simp only [List.mem_cons, List.not_mem_nil, or_false] at hv
    rcases hv with rfl <;> exact ⟨_, rfl, by omega, by omega⟩
  refine GCall.of ((store_ok (R := fun _ => True) (l := [byteAt (rs d) 0]) hf1 (fun _ => trivial) (a := (rs a + imW m).toNat) (by rw [hbb]; simp) hby (fun g' hg' => ?_)).foot (fun _ h => h) (fun b h => C.Wm b (by rw [← hfb]; exact h.1) h.2)) ?_
  · rw [hbb]
    exact .inr ⟨g.n, 0, 4, true, _, 5, rfl, by rw [hg' g.n (by rw [hfb]; omega)]; exact w_push_eq rfl _, by simp [Blk.of], by rfl⟩
  rw [show ([byteAt (rs d) 0]).length = 1 by rw [hbb]; rfl]
  rintro r g1 (⟨x, e, rfl, rfl⟩ | ⟨e, rfl, hf2, hn2, hfp2, hk2⟩)
  · rw [e]
    simp -implicitDefEqProofs (disch := (first | omega | fail)) only [go_sem, seval, ↓reduceIte, reduceCtorEq, t0]
    refine GCall.of (fault46_ok x1 xc x 2 Wx) ?_
    rintro r g2 ⟨rfl, hst⟩
    simp -implicitDefEqProofs (disch := (first | omega | fail)) only [go_sem, seval, ↓reduceIte]
    exact hst.fin x1 hf1 C.ne hfp1
  · rw [e]
    have hL : 0 < L.length := Nat.lt_of_le_of_lt (Nat.zero_le _) (fst_len e 0 (by omega))
    have x2 := (hk2 xp (hf1.fblk_ne x1 hL)).trans x1
    simp -implicitDefEqProofs (disch := (first | omega | fail)) only [go_sem, seval, ↓reduceIte]
    refine tail27 x2 xc hf2 (by rw [hfp2]; exact hfp1) C.ne Wx ?_ ?_
    · simp -implicitDefEqProofs (disch := (first | omega | fail)) only [go_sem, seval, ↓reduceIte, t10]
    · simp -implicitDefEqProofs (disch := (first | omega | fail)) only [go_sem, seval, ↓reduceIte, t14]
end Go.Proofs.Ytmkdbninmimndaa
