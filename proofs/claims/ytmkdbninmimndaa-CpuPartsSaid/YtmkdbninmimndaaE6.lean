/- A step of the program, op by op (printed by genE6.py). -/
import Derived.Test.YtmkdbninmimndaaE5
set_option linter.unusedVariables false
set_option maxRecDepth 100000
namespace Go.Proofs.Ytmkdbninmimndaa
open Go Go.Vm
structure Ctx (tr : Tr V) (g : Heap) (xp ip fp n0 nops N : Nat) (opsv : V) (L Q : List V) (q : Nat → Int) (rs : Regs) (pc : BitVec 32) (op d a b : Nat) (m : Int) (W : Set') : Prop where
  t0 : tr.get 0 = some (.ptr (some (xp, 0)))
  t1 : tr.get 1 = some opsv
  t8 : tr.get 8 = some (.ptr (some (ip, 0)))
  t10 : tr.get 10 = some (.ptr (some (xp, 0)))
  t11 : tr.get 11 = some (.ptr (some (xp, d)))
  t12 : tr.get 12 = some (U (rs a))
  t13 : tr.get 13 = some (U (rs b))
  t14 : tr.get 14 = some (U (pc + 4#32))
  t15 : tr.get 15 = some (U (pc + 4#32 * imW m))
  t16 : tr.get 16 = some (U (rs a + imW m))
  i : ∃ ci, g.get ip = some (.cells ci 50) ∧ ci.size = 5 ∧ ci.get 0 = .int .i64 (op : Int) ∧ ci.get 4 = .int .i64 m
  x : ∃ c, g.get xp = some (.cells c 72) ∧ MC c fp rs pc
  f : FlatAt g fp n0 L Q q
  o : OpsAt g nops opsv
  d16 : d < 16
  ne : fp ≠ xp
  lo : xp < nops ∧ fblk g fp < nops ∧ nops ≤ N
  lt : N ≤ g.n ∧ N ≤ ip ∧ n0 ≤ xp
  Wx : W xp
  Wn : ∀ b, N ≤ b → W b
  Wm : ∀ b, b = fblk g fp → n0 ≤ b → W b
variable {h0 g : Heap} {tr : Tr V} {xp ip fp n0 nops N : Nat} {opsv : V} {L Q : List V} {q : Nat → Int} {rs : Regs} {pc : BitVec 32} {op d a b : Nat} {m : Int} {W : Set'}
abbrev Goal27 (h0 g : Heap) (tr : Tr V) (xp fp n0 : Nat) (L Q : List V) (q : Nat → Int) (rs : Regs) (pc : BitVec 32) (W : Set') (o : Out) : Prop :=
  GO (Try.prog : MP) (fun _ => True) W none (Vm.Fin (Try.prog : MP) (fun _ => True) W [ResultVar.tmp 4] (StepQ h0 xp fp n0 Q q L rs pc o)) [.code ir27_r10] ⟨⟨301, tr⟩, []⟩ g

theorem b_neq (x y : BitVec 32) : intBin .neq .u32 (x.toNat : Int) (y.toNat : Int) = some (.bool (!(x == y))) := by
  have h := b_eql x y
  have e : ((x.toNat : Int) == (y.toNat : Int)) = (x == y) := by
    have h' : some (V.bool ((x.toNat : Int) == (y.toNat : Int))) = some (.bool (x == y)) := h
    simpa using h'
  show some (V.bool (!((x.toNat : Int) == (y.toNat : Int)))) = _
  rw [e]
theorem b_lss (x y : BitVec 32) : intBin .lss .u32 (x.toNat : Int) (y.toNat : Int) = some (.bool (decide (x < y))) := by
  show some (V.bool (decide ((x.toNat : Int) < (y.toNat : Int)))) = _
  congr 2
  simp only [decide_eq_decide, BitVec.lt_def]
  omega
def Stops (h h' : Heap) (xp fp : Nat) (rs : Regs) (pc : BitVec 32) (kind call : Int) (at' : Nat) (need : Int) : Prop := (∃ c, h'.get xp = some (.cells c 72) ∧ MC c fp rs pc ∧ c.get 18 = .int .i64 kind ∧ c.get 19 = .int .i64 call ∧ c.get 20 = .int .u32 (at' : Int) ∧ c.get 21 = .int .i64 need ∧ c.get 22 = .int .i64 0) ∧ (∀ b, b ≠ xp → h'.get b = h.get b) ∧ h'.n = h.n
theorem stops_set {h : Heap} {xp fp : Nat} {c : Blk} {rs : Regs} {pc : BitVec 32} (hx : h.get xp = some (.cells c 72)) (hc : MC c fp rs pc) (kind call : Int) (at' : Nat) (need : Int) : Stops h (h.set xp (.cells (((((c.set 18 (.int .i64 kind)).set 19 (.int .i64 call)).set 20 (.int .u32 (at' : Int))).set 21 (.int .i64 need)).set 22 (.int .i64 0)) 72)) xp fp rs pc kind call at' need :=
  ⟨⟨_, w_set_eq (Heap.lt_of_get hx) rfl _, ((((hc.setHi (by omega) _).setHi (by omega) _).setHi (by omega) _).setHi (by omega) _).setHi (by omega) _, by simp [Blk.get_set], by simp [Blk.get_set], by simp [Blk.get_set], by simp [Blk.get_set], by simp [Blk.get_set]⟩, fun b hb => w_set_ne (Heap.lt_of_get hx) hb _, rfl⟩
theorem Stops.fin {h0 h h' : Heap} {xp fp n0 : Nat} {L Q : List V} {q : Nat → Int} {rs : Regs} {pc : BitVec 32} {kind call : Int} {at' : Nat} {need : Int} {c : Blk} (hs : Stops h h' xp fp rs pc kind call at' need) (hx : h.get xp = some (.cells c 72)) (hf : FlatAt h fp n0 L Q q) (hne : fp ≠ xp) (hfp : h0.get fp = h.get fp) : StepQ h0 xp fp n0 Q q L rs pc (.stop kind call at' need) (.bool false) h' := by
  obtain ⟨⟨c', h1, h2, h3, h4, h5, h6, h7⟩, k, _⟩ := hs
  refine ⟨by rw [k fp hne]; exact hfp, rfl, ⟨c', h1, h2⟩, ⟨c', h1, h3, h4, h5, h6, h7⟩, hf.keep72 fun b d e he hb => ?_⟩
  have : b ≠ xp := fun e' => by rw [e', hx] at hb; simp at hb; exact he hb.2.symm
  rw [k b this]; exact hb
set_option maxHeartbeats 4000000 in
theorem end45_ok {h : Heap} {R : Set'} {c : Blk} (hx : h.get xp = some (.cells c 72)) (hc : MC c fp rs pc) (k : Int) (hW : W xp) : SF (Try.prog : MP) 45 [.ptr (some (xp, 0)), .int .i64 k] h R W fun v h' => v = .bool false ∧ Stops h h' xp fp rs pc k 0 0 0 := by
  have hs := hc.size; have hr := hc.ro
  refine SF.go hm Try.func45 ir45_eq ?_
  simp -implicitDefEqProofs (disch := (first | omega | fail)) only [go_sem, seval, ↓reduceIte, reduceCtorEq, ir45, undefV, hx, hs, hr, hW]
  exact stops_set hx hc k 0 0 0
set_option maxHeartbeats 4000000 in
theorem fault46_ok {h : Heap} {R : Set'} {c : Blk} (hx : h.get xp = some (.cells c 72)) (hc : MC c fp rs pc) (x : Nat) (n : Int) (hW : W xp) : SF (Try.prog : MP) 46 [.ptr (some (xp, 0)), .int .u32 (x : Int), .int .i64 n] h R W fun v h' => v = .bool false ∧ Stops h h' xp fp rs pc 5 0 x n := by
  have hs := hc.size; have hr := hc.ro
  refine SF.go hm Try.func46 ir46_eq ?_
  simp -implicitDefEqProofs (disch := (first | omega | fail)) only [go_sem, seval, ↓reduceIte, reduceCtorEq, ir46, undefV, hx, hs, hr, hW]
  exact stops_set hx hc 5 0 x n
set_option maxHeartbeats 4000000 in
theorem ex_1 (C : Ctx tr g xp ip fp n0 nops N opsv L Q q rs pc 1 d a b m W) (hfp : h0.get fp = g.get fp) : Goal27 h0 g tr xp fp n0 L Q q rs pc W (execO q L rs pc 1 d a b m) := by
  unfold Goal27 execO
  obtain ⟨ci, i0, i1, i2, i3⟩ := C.i
  obtain ⟨c, x0, xc⟩ := C.x
  have hs := xc.size; have hr := xc.ro
  have t0 := C.t0; have t1 := C.t1; have t8 := C.t8; have t10 := C.t10; have t11 := C.t11; have t12 := C.t12; have t13 := C.t13; have t14 := C.t14; have t15 := C.t15; have t16 := C.t16
  have hd := C.d16; have Wx := C.Wx
  have hd23 : d < 23 := by omega
  have hrd := xc.reg d hd
  have him := i_im m
  have him2 := i_im2 m
  simp -implicitDefEqProofs (disch := (first | omega | fail)) only [go_sem, seval, ↓reduceIte, ir27_r10_eq, ir27_s10, t8, i0, i1, i2]
  refine tail27 x0 xc C.f hfp C.ne Wx ?_ ?_
  · simp -implicitDefEqProofs (disch := (first | omega | fail)) only [go_sem, seval, ↓reduceIte, t10]
  · simp -implicitDefEqProofs (disch := (first | omega | fail)) only [go_sem, seval, ↓reduceIte, t14]
set_option maxHeartbeats 4000000 in
theorem ex_2 (C : Ctx tr g xp ip fp n0 nops N opsv L Q q rs pc 2 d a b m W) (hfp : h0.get fp = g.get fp) : Goal27 h0 g tr xp fp n0 L Q q rs pc W (execO q L rs pc 2 d a b m) := by
  unfold Goal27 execO
  obtain ⟨ci, i0, i1, i2, i3⟩ := C.i
  obtain ⟨c, x0, xc⟩ := C.x
  have hs := xc.size; have hr := xc.ro
  have t0 := C.t0; have t1 := C.t1; have t8 := C.t8; have t10 := C.t10; have t11 := C.t11; have t12 := C.t12; have t13 := C.t13; have t14 := C.t14; have t15 := C.t15; have t16 := C.t16
  have hd := C.d16; have Wx := C.Wx
  have hd23 : d < 23 := by omega
  have hrd := xc.reg d hd
  have him := i_im m
  have him2 := i_im2 m
  simp -implicitDefEqProofs (disch := (first | omega | fail)) only [go_sem, seval, ↓reduceIte, reduceCtorEq, ir27_r10_eq, ir27_s10, t0, t8, i0, i1, i2]
  refine GCall.of (end45_ok x0 xc 4 Wx) ?_
  rintro r g1 ⟨rfl, hst⟩
  simp -implicitDefEqProofs (disch := (first | omega | fail)) only [go_sem, seval, ↓reduceIte]
  exact hst.fin x0 C.f C.ne hfp
set_option maxHeartbeats 4000000 in
theorem ex_4 (C : Ctx tr g xp ip fp n0 nops N opsv L Q q rs pc 4 d a b m W) (hfp : h0.get fp = g.get fp) : Goal27 h0 g tr xp fp n0 L Q q rs pc W (execO q L rs pc 4 d a b m) := by
  unfold Goal27 execO
  obtain ⟨ci, i0, i1, i2, i3⟩ := C.i
  obtain ⟨c, x0, xc⟩ := C.x
  have hs := xc.size; have hr := xc.ro
  have t0 := C.t0; have t1 := C.t1; have t8 := C.t8; have t10 := C.t10; have t11 := C.t11; have t12 := C.t12; have t13 := C.t13; have t14 := C.t14; have t15 := C.t15; have t16 := C.t16
  have hd := C.d16; have Wx := C.Wx
  have hd23 : d < 23 := by omega
  have hrd := xc.reg d hd
  have him := i_im m
  have him2 := i_im2 m
  simp -implicitDefEqProofs (disch := (first | omega | fail)) only [go_sem, seval, ↓reduceIte, reduceCtorEq, ir27_r10_eq, ir27_s10, t0, t8, i0, i1, i2]
  refine GCall.of (end45_ok x0 xc 3 Wx) ?_
  rintro r g1 ⟨rfl, hst⟩
  simp -implicitDefEqProofs (disch := (first | omega | fail)) only [go_sem, seval, ↓reduceIte]
  exact hst.fin x0 C.f C.ne hfp
set_option maxHeartbeats 4000000 in
theorem ex_3 (C : Ctx tr g xp ip fp n0 nops N opsv L Q q rs pc 3 d a b m W) (hfp : h0.get fp = g.get fp) : Goal27 h0 g tr xp fp n0 L Q q rs pc W (execO q L rs pc 3 d a b m) := by
  unfold Goal27 execO
  obtain ⟨ci, i0, i1, i2, i3⟩ := C.i
  obtain ⟨c, x0, xc⟩ := C.x
  have hs := xc.size; have hr := xc.ro
  have t0 := C.t0; have t1 := C.t1; have t8 := C.t8; have t10 := C.t10; have t11 := C.t11; have t12 := C.t12; have t13 := C.t13; have t14 := C.t14; have t15 := C.t15; have t16 := C.t16
  have hd := C.d16; have Wx := C.Wx
  have hd23 : d < 23 := by omega
  have hrd := xc.reg d hd
  have him := i_im m
  have him2 := i_im2 m
  simp -implicitDefEqProofs (disch := (first | omega | fail)) only [go_sem, seval, ↓reduceIte, reduceCtorEq, ir27_r10_eq, ir27_s10, undefV, t0, t8, i0, i1, i2, i3, x0, hs, hr, Wx]
  exact (stops_set x0 xc 2 m 0 0).fin x0 C.f C.ne hfp
set_option maxHeartbeats 4000000 in
theorem ex_5 (C : Ctx tr g xp ip fp n0 nops N opsv L Q q rs pc 5 d a b m W) (hfp : h0.get fp = g.get fp) : Goal27 h0 g tr xp fp n0 L Q q rs pc W (execO q L rs pc 5 d a b m) := by
  unfold Goal27 execO
  obtain ⟨ci, i0, i1, i2, i3⟩ := C.i
  obtain ⟨c, x0, xc⟩ := C.x
  have hs := xc.size; have hr := xc.ro
  have t0 := C.t0; have t1 := C.t1; have t8 := C.t8; have t10 := C.t10; have t11 := C.t11; have t12 := C.t12; have t13 := C.t13; have t14 := C.t14; have t15 := C.t15; have t16 := C.t16
  have hd := C.d16; have Wx := C.Wx
  have hd23 : d < 23 := by omega
  have hrd := xc.reg d hd
  have him := i_im m
  have him2 := i_im2 m
  simp -implicitDefEqProofs (disch := (first | omega | fail)) only [go_sem, seval, ↓reduceIte, ir27_r10_eq, ir27_s10, undefV, t8, t11, i0, i1, i2, i3, x0, hs, hr, Wx, ↓cv3_21, c3_21, ↓cv21_25, c21_25, him]
  refine tail27 (w_set_eq (Heap.lt_of_get x0) rfl _) (xc.setR hd _) (C.f.keep72 (set72 x0)) ?_ C.ne Wx ?_ ?_
  · rw [w_set_ne (Heap.lt_of_get x0) C.ne]; exact hfp
  · simp -implicitDefEqProofs (disch := (first | omega | fail)) only [go_sem, seval, ↓reduceIte, t10]
  · simp -implicitDefEqProofs (disch := (first | omega | fail)) only [go_sem, seval, ↓reduceIte, t14]
set_option maxHeartbeats 4000000 in
theorem ex_7 (C : Ctx tr g xp ip fp n0 nops N opsv L Q q rs pc 7 d a b m W) (hfp : h0.get fp = g.get fp) : Goal27 h0 g tr xp fp n0 L Q q rs pc W (execO q L rs pc 7 d a b m) := by
  unfold Goal27 execO
  obtain ⟨ci, i0, i1, i2, i3⟩ := C.i
  obtain ⟨c, x0, xc⟩ := C.x
  have hs := xc.size; have hr := xc.ro
  have t0 := C.t0; have t1 := C.t1; have t8 := C.t8; have t10 := C.t10; have t11 := C.t11; have t12 := C.t12; have t13 := C.t13; have t14 := C.t14; have t15 := C.t15; have t16 := C.t16
  have hd := C.d16; have Wx := C.Wx
  have hd23 : d < 23 := by omega
  have hrd := xc.reg d hd
  have him := i_im m
  have him2 := i_im2 m
  simp -implicitDefEqProofs (disch := (first | omega | fail)) only [go_sem, seval, ↓reduceIte, ir27_r10_eq, ir27_s10, undefV, t8, t11, t12, i0, i1, i2, x0, hs, hr, Wx]
  refine tail27 (w_set_eq (Heap.lt_of_get x0) rfl _) (xc.setR hd _) (C.f.keep72 (set72 x0)) ?_ C.ne Wx ?_ ?_
  · rw [w_set_ne (Heap.lt_of_get x0) C.ne]; exact hfp
  · simp -implicitDefEqProofs (disch := (first | omega | fail)) only [go_sem, seval, ↓reduceIte, t10]
  · simp -implicitDefEqProofs (disch := (first | omega | fail)) only [go_sem, seval, ↓reduceIte, t14]
set_option maxHeartbeats 4000000 in
theorem ex_18 (C : Ctx tr g xp ip fp n0 nops N opsv L Q q rs pc 18 d a b m W) (hfp : h0.get fp = g.get fp) : Goal27 h0 g tr xp fp n0 L Q q rs pc W (execO q L rs pc 18 d a b m) := by
  unfold Goal27 execO
  obtain ⟨ci, i0, i1, i2, i3⟩ := C.i
  obtain ⟨c, x0, xc⟩ := C.x
  have hs := xc.size; have hr := xc.ro
  have t0 := C.t0; have t1 := C.t1; have t8 := C.t8; have t10 := C.t10; have t11 := C.t11; have t12 := C.t12; have t13 := C.t13; have t14 := C.t14; have t15 := C.t15; have t16 := C.t16
  have hd := C.d16; have Wx := C.Wx
  have hd23 : d < 23 := by omega
  have hrd := xc.reg d hd
  have him := i_im m
  have him2 := i_im2 m
  simp -implicitDefEqProofs (disch := (first | omega | fail)) only [go_sem, seval, ↓reduceIte, ir27_r10_eq, ir27_s10, undefV, t8, t11, t16, i0, i1, i2, x0, hs, hr, Wx]
  refine tail27 (w_set_eq (Heap.lt_of_get x0) rfl _) (xc.setR hd _) (C.f.keep72 (set72 x0)) ?_ C.ne Wx ?_ ?_
  · rw [w_set_ne (Heap.lt_of_get x0) C.ne]; exact hfp
  · simp -implicitDefEqProofs (disch := (first | omega | fail)) only [go_sem, seval, ↓reduceIte, t10]
  · simp -implicitDefEqProofs (disch := (first | omega | fail)) only [go_sem, seval, ↓reduceIte, t14]
set_option maxHeartbeats 4000000 in
theorem ex_6 (C : Ctx tr g xp ip fp n0 nops N opsv L Q q rs pc 6 d a b m W) (hfp : h0.get fp = g.get fp) : Goal27 h0 g tr xp fp n0 L Q q rs pc W (execO q L rs pc 6 d a b m) := by
  unfold Goal27 execO
  obtain ⟨ci, i0, i1, i2, i3⟩ := C.i
  obtain ⟨c, x0, xc⟩ := C.x
  have hs := xc.size; have hr := xc.ro
  have t0 := C.t0; have t1 := C.t1; have t8 := C.t8; have t10 := C.t10; have t11 := C.t11; have t12 := C.t12; have t13 := C.t13; have t14 := C.t14; have t15 := C.t15; have t16 := C.t16
  have hd := C.d16; have Wx := C.Wx
  have hd23 : d < 23 := by omega
  have hrd := xc.reg d hd
  have him := i_im m
  have him2 := i_im2 m
  have a1 : intBin .and .u32 ((rs d).toNat : Int) 65535 = some (U (rs d &&& 65535#32)) := b_and _ 65535#32
  have a2 : intShift .shl .u32 ((imW m).toNat : Int) 16 = some (U (imW m <<< 16)) := b_shl _ 16
  simp -implicitDefEqProofs (disch := (first | omega | fail)) only [go_sem, seval, ↓reduceIte, ir27_r10_eq, ir27_s10, undefV, t8, t11, i0, i1, i2, i3, x0, hs, hr, Wx, hrd, him2, ↓cvDD, cD, ↓a1, ↓a2, ↓b_or]
  refine tail27 (w_set_eq (Heap.lt_of_get x0) rfl _) (xc.setR hd _) (C.f.keep72 (set72 x0)) ?_ C.ne Wx ?_ ?_
  · rw [w_set_ne (Heap.lt_of_get x0) C.ne]; exact hfp
  · simp -implicitDefEqProofs (disch := (first | omega | fail)) only [go_sem, seval, ↓reduceIte, t10]
  · simp -implicitDefEqProofs (disch := (first | omega | fail)) only [go_sem, seval, ↓reduceIte, t14]
set_option maxHeartbeats 4000000 in
theorem ex_25 (C : Ctx tr g xp ip fp n0 nops N opsv L Q q rs pc 25 d a b m W) (hfp : h0.get fp = g.get fp) : Goal27 h0 g tr xp fp n0 L Q q rs pc W (execO q L rs pc 25 d a b m) := by
  unfold Goal27 execO
  obtain ⟨ci, i0, i1, i2, i3⟩ := C.i
  obtain ⟨c, x0, xc⟩ := C.x
  have hs := xc.size; have hr := xc.ro
  have t0 := C.t0; have t1 := C.t1; have t8 := C.t8; have t10 := C.t10; have t11 := C.t11; have t12 := C.t12; have t13 := C.t13; have t14 := C.t14; have t15 := C.t15; have t16 := C.t16
  have hd := C.d16; have Wx := C.Wx
  have hd23 : d < 23 := by omega
  have hrd := xc.reg d hd
  have him := i_im m
  have him2 := i_im2 m
  simp -implicitDefEqProofs (disch := (first | omega | fail)) only [go_sem, seval, ↓reduceIte, ir27_r10_eq, ir27_s10, undefV, t8, t11, t14, t15, i0, i1, i2, x0, hs, hr, Wx]
  refine tail27 (w_set_eq (Heap.lt_of_get x0) rfl _) (xc.setR hd _) (C.f.keep72 (set72 x0)) ?_ C.ne Wx ?_ ?_
  · rw [w_set_ne (Heap.lt_of_get x0) C.ne]; exact hfp
  · simp -implicitDefEqProofs (disch := (first | omega | fail)) only [go_sem, seval, ↓reduceIte, t10]
  · simp -implicitDefEqProofs (disch := (first | omega | fail)) only [go_sem, seval, ↓reduceIte]
set_option maxHeartbeats 4000000 in
theorem ex_23 (C : Ctx tr g xp ip fp n0 nops N opsv L Q q rs pc 23 d a b m W) (hfp : h0.get fp = g.get fp) : Goal27 h0 g tr xp fp n0 L Q q rs pc W (execO q L rs pc 23 d a b m) := by
  unfold Goal27 execO
  obtain ⟨ci, i0, i1, i2, i3⟩ := C.i
  obtain ⟨c, x0, xc⟩ := C.x
  have hs := xc.size; have hr := xc.ro
  have t0 := C.t0; have t1 := C.t1; have t8 := C.t8; have t10 := C.t10; have t11 := C.t11; have t12 := C.t12; have t13 := C.t13; have t14 := C.t14; have t15 := C.t15; have t16 := C.t16
  have hd := C.d16; have Wx := C.Wx
  have hd23 : d < 23 := by omega
  have hrd := xc.reg d hd
  have him := i_im m
  have him2 := i_im2 m
  simp -implicitDefEqProofs (disch := (first | omega | fail)) only [go_sem, seval, ↓reduceIte, ir27_r10_eq, ir27_s10, t8, t15, i0, i1, i2]
  refine tail27 x0 xc C.f hfp C.ne Wx ?_ ?_
  · simp -implicitDefEqProofs (disch := (first | omega | fail)) only [go_sem, seval, ↓reduceIte, t10]
  · simp -implicitDefEqProofs (disch := (first | omega | fail)) only [go_sem, seval, ↓reduceIte]
set_option maxHeartbeats 4000000 in
theorem ex_24 (C : Ctx tr g xp ip fp n0 nops N opsv L Q q rs pc 24 d a b m W) (hfp : h0.get fp = g.get fp) : Goal27 h0 g tr xp fp n0 L Q q rs pc W (execO q L rs pc 24 d a b m) := by
  unfold Goal27 execO
  obtain ⟨ci, i0, i1, i2, i3⟩ := C.i
  obtain ⟨c, x0, xc⟩ := C.x
  have hs := xc.size; have hr := xc.ro
  have t0 := C.t0; have t1 := C.t1; have t8 := C.t8; have t10 := C.t10; have t11 := C.t11; have t12 := C.t12; have t13 := C.t13; have t14 := C.t14; have t15 := C.t15; have t16 := C.t16
  have hd := C.d16; have Wx := C.Wx
  have hd23 : d < 23 := by omega
  have hrd := xc.reg d hd
  have him := i_im m
  have him2 := i_im2 m
  simp -implicitDefEqProofs (disch := (first | omega | fail)) only [go_sem, seval, ↓reduceIte, ir27_r10_eq, ir27_s10, t8, t12, i0, i1, i2]
  refine tail27 x0 xc C.f hfp C.ne Wx ?_ ?_
  · simp -implicitDefEqProofs (disch := (first | omega | fail)) only [go_sem, seval, ↓reduceIte, t10]
  · simp -implicitDefEqProofs (disch := (first | omega | fail)) only [go_sem, seval, ↓reduceIte]
set_option maxHeartbeats 4000000 in
theorem ex_26 (C : Ctx tr g xp ip fp n0 nops N opsv L Q q rs pc 26 d a b m W) (hfp : h0.get fp = g.get fp) : Goal27 h0 g tr xp fp n0 L Q q rs pc W (execO q L rs pc 26 d a b m) := by
  unfold Goal27 execO
  obtain ⟨ci, i0, i1, i2, i3⟩ := C.i
  obtain ⟨c, x0, xc⟩ := C.x
  have hs := xc.size; have hr := xc.ro
  have t0 := C.t0; have t1 := C.t1; have t8 := C.t8; have t10 := C.t10; have t11 := C.t11; have t12 := C.t12; have t13 := C.t13; have t14 := C.t14; have t15 := C.t15; have t16 := C.t16
  have hd := C.d16; have Wx := C.Wx
  have hd23 : d < 23 := by omega
  have hrd := xc.reg d hd
  have him := i_im m
  have him2 := i_im2 m
  by_cases e : rs d = rs a
  · have e' : (rs d == rs a) = true := by simpa using e
    simp only [e, if_true]
    rw [e] at e' hrd
    simp -implicitDefEqProofs (disch := (first | omega | fail)) only [go_sem, seval, ↓reduceIte, ir27_r10_eq, ir27_s10, undefV, t8, t11, t12, t15, i0, i1, i2, x0, hs, hrd, ↓b_eql, e']
    refine tail27 x0 xc C.f hfp C.ne Wx ?_ ?_
    · simp -implicitDefEqProofs (disch := (first | omega | fail)) only [go_sem, seval, ↓reduceIte, t10]
    · simp -implicitDefEqProofs (disch := (first | omega | fail)) only [go_sem, seval, ↓reduceIte]
  · have e' : (rs d == rs a) = false := by simpa using e
    simp only [e, if_false]
    simp -implicitDefEqProofs (disch := (first | omega | fail)) only [go_sem, seval, ↓reduceIte, ir27_r10_eq, ir27_s10, undefV, t8, t11, t12, i0, i1, i2, x0, hs, hrd, ↓b_eql, e']
    refine tail27 x0 xc C.f hfp C.ne Wx ?_ ?_
    · simp -implicitDefEqProofs (disch := (first | omega | fail)) only [go_sem, seval, ↓reduceIte, t10]
    · simp -implicitDefEqProofs (disch := (first | omega | fail)) only [go_sem, seval, ↓reduceIte, t14]
set_option maxHeartbeats 4000000 in
theorem ex_27 (C : Ctx tr g xp ip fp n0 nops N opsv L Q q rs pc 27 d a b m W) (hfp : h0.get fp = g.get fp) : Goal27 h0 g tr xp fp n0 L Q q rs pc W (execO q L rs pc 27 d a b m) := by
  unfold Goal27 execO
  obtain ⟨ci, i0, i1, i2, i3⟩ := C.i
  obtain ⟨c, x0, xc⟩ := C.x
  have hs := xc.size; have hr := xc.ro
  have t0 := C.t0; have t1 := C.t1; have t8 := C.t8; have t10 := C.t10; have t11 := C.t11; have t12 := C.t12; have t13 := C.t13; have t14 := C.t14; have t15 := C.t15; have t16 := C.t16
  have hd := C.d16; have Wx := C.Wx
  have hd23 : d < 23 := by omega
  have hrd := xc.reg d hd
  have him := i_im m
  have him2 := i_im2 m
  by_cases e : rs d = rs a
  · have e' : (rs d == rs a) = true := by simpa using e
    simp only [e, if_true]
    rw [e] at e' hrd
    simp -implicitDefEqProofs (disch := (first | omega | fail)) only [go_sem, seval, ↓reduceIte, ir27_r10_eq, ir27_s10, undefV, t8, t11, t12, i0, i1, i2, x0, hs, hrd, ↓b_neq, e']
    refine tail27 x0 xc C.f hfp C.ne Wx ?_ ?_
    · simp -implicitDefEqProofs (disch := (first | omega | fail)) only [go_sem, seval, ↓reduceIte, t10]
    · simp -implicitDefEqProofs (disch := (first | omega | fail)) only [go_sem, seval, ↓reduceIte, t14]
  · have e' : (rs d == rs a) = false := by simpa using e
    simp only [e, if_false]
    simp -implicitDefEqProofs (disch := (first | omega | fail)) only [go_sem, seval, ↓reduceIte, ir27_r10_eq, ir27_s10, undefV, t8, t11, t12, t15, i0, i1, i2, x0, hs, hrd, ↓b_neq, e']
    refine tail27 x0 xc C.f hfp C.ne Wx ?_ ?_
    · simp -implicitDefEqProofs (disch := (first | omega | fail)) only [go_sem, seval, ↓reduceIte, t10]
    · simp -implicitDefEqProofs (disch := (first | omega | fail)) only [go_sem, seval, ↓reduceIte]
set_option maxHeartbeats 4000000 in
theorem ex_28 (C : Ctx tr g xp ip fp n0 nops N opsv L Q q rs pc 28 d a b m W) (hfp : h0.get fp = g.get fp) : Goal27 h0 g tr xp fp n0 L Q q rs pc W (execO q L rs pc 28 d a b m) := by
  unfold Goal27 execO
  obtain ⟨ci, i0, i1, i2, i3⟩ := C.i
  obtain ⟨c, x0, xc⟩ := C.x
  have hs := xc.size; have hr := xc.ro
  have t0 := C.t0; have t1 := C.t1; have t8 := C.t8; have t10 := C.t10; have t11 := C.t11; have t12 := C.t12; have t13 := C.t13; have t14 := C.t14; have t15 := C.t15; have t16 := C.t16
  have hd := C.d16; have Wx := C.Wx
  have hd23 : d < 23 := by omega
  have hrd := xc.reg d hd
  have him := i_im m
  have him2 := i_im2 m
  by_cases e : rs d < rs a
  · simp only [e, if_true]
    simp -implicitDefEqProofs (disch := (first | omega | fail)) only [go_sem, seval, ↓reduceIte, ir27_r10_eq, ir27_s10, undefV, t8, t11, t12, t15, i0, i1, i2, x0, hs, hrd, ↓b_lss, e]
    refine tail27 x0 xc C.f hfp C.ne Wx ?_ ?_
    · simp -implicitDefEqProofs (disch := (first | omega | fail)) only [go_sem, seval, ↓reduceIte, t10]
    · simp -implicitDefEqProofs (disch := (first | omega | fail)) only [go_sem, seval, ↓reduceIte]
  · simp only [e, if_false]
    simp -implicitDefEqProofs (disch := (first | omega | fail)) only [go_sem, seval, ↓reduceIte, ir27_r10_eq, ir27_s10, undefV, t8, t11, t12, i0, i1, i2, x0, hs, hrd, ↓b_lss, e]
    refine tail27 x0 xc C.f hfp C.ne Wx ?_ ?_
    · simp -implicitDefEqProofs (disch := (first | omega | fail)) only [go_sem, seval, ↓reduceIte, t10]
    · simp -implicitDefEqProofs (disch := (first | omega | fail)) only [go_sem, seval, ↓reduceIte, t14]
set_option maxHeartbeats 4000000 in
theorem ex_8 (C : Ctx tr g xp ip fp n0 nops N opsv L Q q rs pc 8 d a b m W) (hfp : h0.get fp = g.get fp) : Goal27 h0 g tr xp fp n0 L Q q rs pc W (execO q L rs pc 8 d a b m) := by
  unfold Goal27 execO
  obtain ⟨ci, i0, i1, i2, i3⟩ := C.i
  obtain ⟨c, x0, xc⟩ := C.x
  have hs := xc.size; have hr := xc.ro
  have t0 := C.t0; have t1 := C.t1; have t8 := C.t8; have t10 := C.t10; have t11 := C.t11; have t12 := C.t12; have t13 := C.t13; have t14 := C.t14; have t15 := C.t15; have t16 := C.t16
  have hd := C.d16; have Wx := C.Wx
  have hd23 : d < 23 := by omega
  have hrd := xc.reg d hd
  have him := i_im m
  have him2 := i_im2 m
  obtain ⟨f, mm, hlk, hml, hF⟩ := C.o.look (op := 8) (by omega)
  rcases hF with ⟨e, _⟩ | ⟨e, _⟩ | ⟨e, bx, cb, rfl, b0, b1, b2, b3⟩
  · exact absurd e (by decide)
  · exact absurd e (by decide)
  simp only [Nat.reduceEqDiff, if_false]
  simp -implicitDefEqProofs (disch := (first | omega | fail)) only [go_sem, Nat.reduceAdd, Nat.reduceLT, Nat.reduceEqDiff, ↓reduceIte, ir27_r10_eq, ir27_s10, t1, t8, t12, t13, i0, i1, i2, ↓hlk]
  refine GCall.of (f34_ok (R := fun _ => True) (W := W) (op := 8) e b1 b2 b3 trivial (rs a) (rs b)) ?_
  rintro r g1 ⟨rfl, rfl⟩
  cases hal : alu 8 (rs a) (rs b) with
  | none =>
    simp -implicitDefEqProofs (disch := (first | omega | fail)) only [go_sem, seval, ↓reduceIte, reduceCtorEq, aluV, t0]
    refine GCall.of (end45_ok x0 xc 7 Wx) ?_
    rintro r g2 ⟨rfl, hst⟩
    simp -implicitDefEqProofs (disch := (first | omega | fail)) only [go_sem, seval, ↓reduceIte]
    exact hst.fin x0 C.f C.ne hfp
  | some v =>
    simp -implicitDefEqProofs (disch := (first | omega | fail)) only [go_sem, seval, ↓reduceIte, undefV, aluV, t11, x0, hs, hr, Wx]
    refine tail27 (w_set_eq (Heap.lt_of_get x0) rfl _) (xc.setR hd _) (C.f.keep72 (set72 x0)) ?_ C.ne Wx ?_ ?_
    · rw [w_set_ne (Heap.lt_of_get x0) C.ne]; exact hfp
    · simp -implicitDefEqProofs (disch := (first | omega | fail)) only [go_sem, seval, ↓reduceIte, t10]
    · simp -implicitDefEqProofs (disch := (first | omega | fail)) only [go_sem, seval, ↓reduceIte, t14]
set_option maxHeartbeats 4000000 in
theorem ex_9 (C : Ctx tr g xp ip fp n0 nops N opsv L Q q rs pc 9 d a b m W) (hfp : h0.get fp = g.get fp) : Goal27 h0 g tr xp fp n0 L Q q rs pc W (execO q L rs pc 9 d a b m) := by
  unfold Goal27 execO
  obtain ⟨ci, i0, i1, i2, i3⟩ := C.i
  obtain ⟨c, x0, xc⟩ := C.x
  have hs := xc.size; have hr := xc.ro
  have t0 := C.t0; have t1 := C.t1; have t8 := C.t8; have t10 := C.t10; have t11 := C.t11; have t12 := C.t12; have t13 := C.t13; have t14 := C.t14; have t15 := C.t15; have t16 := C.t16
  have hd := C.d16; have Wx := C.Wx
  have hd23 : d < 23 := by omega
  have hrd := xc.reg d hd
  have him := i_im m
  have him2 := i_im2 m
  obtain ⟨f, mm, hlk, hml, hF⟩ := C.o.look (op := 9) (by omega)
  rcases hF with ⟨e, _⟩ | ⟨e, _⟩ | ⟨e, bx, cb, rfl, b0, b1, b2, b3⟩
  · exact absurd e (by decide)
  · exact absurd e (by decide)
  simp only [Nat.reduceEqDiff, if_false]
  simp -implicitDefEqProofs (disch := (first | omega | fail)) only [go_sem, Nat.reduceAdd, Nat.reduceLT, Nat.reduceEqDiff, ↓reduceIte, ir27_r10_eq, ir27_s10, t1, t8, t12, t13, i0, i1, i2, ↓hlk]
  refine GCall.of (f34_ok (R := fun _ => True) (W := W) (op := 9) e b1 b2 b3 trivial (rs a) (rs b)) ?_
  rintro r g1 ⟨rfl, rfl⟩
  cases hal : alu 9 (rs a) (rs b) with
  | none =>
    simp -implicitDefEqProofs (disch := (first | omega | fail)) only [go_sem, seval, ↓reduceIte, reduceCtorEq, aluV, t0]
    refine GCall.of (end45_ok x0 xc 7 Wx) ?_
    rintro r g2 ⟨rfl, hst⟩
    simp -implicitDefEqProofs (disch := (first | omega | fail)) only [go_sem, seval, ↓reduceIte]
    exact hst.fin x0 C.f C.ne hfp
  | some v =>
    simp -implicitDefEqProofs (disch := (first | omega | fail)) only [go_sem, seval, ↓reduceIte, undefV, aluV, t11, x0, hs, hr, Wx]
    refine tail27 (w_set_eq (Heap.lt_of_get x0) rfl _) (xc.setR hd _) (C.f.keep72 (set72 x0)) ?_ C.ne Wx ?_ ?_
    · rw [w_set_ne (Heap.lt_of_get x0) C.ne]; exact hfp
    · simp -implicitDefEqProofs (disch := (first | omega | fail)) only [go_sem, seval, ↓reduceIte, t10]
    · simp -implicitDefEqProofs (disch := (first | omega | fail)) only [go_sem, seval, ↓reduceIte, t14]
set_option maxHeartbeats 4000000 in
theorem ex_10 (C : Ctx tr g xp ip fp n0 nops N opsv L Q q rs pc 10 d a b m W) (hfp : h0.get fp = g.get fp) : Goal27 h0 g tr xp fp n0 L Q q rs pc W (execO q L rs pc 10 d a b m) := by
  unfold Goal27 execO
  obtain ⟨ci, i0, i1, i2, i3⟩ := C.i
  obtain ⟨c, x0, xc⟩ := C.x
  have hs := xc.size; have hr := xc.ro
  have t0 := C.t0; have t1 := C.t1; have t8 := C.t8; have t10 := C.t10; have t11 := C.t11; have t12 := C.t12; have t13 := C.t13; have t14 := C.t14; have t15 := C.t15; have t16 := C.t16
  have hd := C.d16; have Wx := C.Wx
  have hd23 : d < 23 := by omega
  have hrd := xc.reg d hd
  have him := i_im m
  have him2 := i_im2 m
  obtain ⟨f, mm, hlk, hml, hF⟩ := C.o.look (op := 10) (by omega)
  rcases hF with ⟨e, _⟩ | ⟨e, _⟩ | ⟨e, bx, cb, rfl, b0, b1, b2, b3⟩
  · exact absurd e (by decide)
  · exact absurd e (by decide)
  simp only [Nat.reduceEqDiff, if_false]
  simp -implicitDefEqProofs (disch := (first | omega | fail)) only [go_sem, Nat.reduceAdd, Nat.reduceLT, Nat.reduceEqDiff, ↓reduceIte, ir27_r10_eq, ir27_s10, t1, t8, t12, t13, i0, i1, i2, ↓hlk]
  refine GCall.of (f34_ok (R := fun _ => True) (W := W) (op := 10) e b1 b2 b3 trivial (rs a) (rs b)) ?_
  rintro r g1 ⟨rfl, rfl⟩
  cases hal : alu 10 (rs a) (rs b) with
  | none =>
    simp -implicitDefEqProofs (disch := (first | omega | fail)) only [go_sem, seval, ↓reduceIte, reduceCtorEq, aluV, t0]
    refine GCall.of (end45_ok x0 xc 7 Wx) ?_
    rintro r g2 ⟨rfl, hst⟩
    simp -implicitDefEqProofs (disch := (first | omega | fail)) only [go_sem, seval, ↓reduceIte]
    exact hst.fin x0 C.f C.ne hfp
  | some v =>
    simp -implicitDefEqProofs (disch := (first | omega | fail)) only [go_sem, seval, ↓reduceIte, undefV, aluV, t11, x0, hs, hr, Wx]
    refine tail27 (w_set_eq (Heap.lt_of_get x0) rfl _) (xc.setR hd _) (C.f.keep72 (set72 x0)) ?_ C.ne Wx ?_ ?_
    · rw [w_set_ne (Heap.lt_of_get x0) C.ne]; exact hfp
    · simp -implicitDefEqProofs (disch := (first | omega | fail)) only [go_sem, seval, ↓reduceIte, t10]
    · simp -implicitDefEqProofs (disch := (first | omega | fail)) only [go_sem, seval, ↓reduceIte, t14]
set_option maxHeartbeats 4000000 in
theorem ex_11 (C : Ctx tr g xp ip fp n0 nops N opsv L Q q rs pc 11 d a b m W) (hfp : h0.get fp = g.get fp) : Goal27 h0 g tr xp fp n0 L Q q rs pc W (execO q L rs pc 11 d a b m) := by
  unfold Goal27 execO
  obtain ⟨ci, i0, i1, i2, i3⟩ := C.i
  obtain ⟨c, x0, xc⟩ := C.x
  have hs := xc.size; have hr := xc.ro
  have t0 := C.t0; have t1 := C.t1; have t8 := C.t8; have t10 := C.t10; have t11 := C.t11; have t12 := C.t12; have t13 := C.t13; have t14 := C.t14; have t15 := C.t15; have t16 := C.t16
  have hd := C.d16; have Wx := C.Wx
  have hd23 : d < 23 := by omega
  have hrd := xc.reg d hd
  have him := i_im m
  have him2 := i_im2 m
  obtain ⟨f, mm, hlk, hml, hF⟩ := C.o.look (op := 11) (by omega)
  rcases hF with ⟨_, rfl⟩ | ⟨e, _⟩ | ⟨e, _⟩
  rotate_left
  · exact absurd e (by decide)
  · unfold plainOp at e; omega
  simp only [Nat.reduceEqDiff, if_false]
  simp -implicitDefEqProofs (disch := (first | omega | fail)) only [go_sem, Nat.reduceAdd, Nat.reduceLT, Nat.reduceEqDiff, ↓reduceIte, ir27_r10_eq, ir27_s10, t1, t8, t12, t13, i0, i1, i2, ↓hlk]
  refine GCall.of (f43_ok (rs a) (rs b)) ?_
  rintro r g1 ⟨rfl, rfl⟩
  cases hal : alu 11 (rs a) (rs b) with
  | none =>
    simp -implicitDefEqProofs (disch := (first | omega | fail)) only [go_sem, seval, ↓reduceIte, reduceCtorEq, aluV, t0]
    refine GCall.of (end45_ok x0 xc 7 Wx) ?_
    rintro r g2 ⟨rfl, hst⟩
    simp -implicitDefEqProofs (disch := (first | omega | fail)) only [go_sem, seval, ↓reduceIte]
    exact hst.fin x0 C.f C.ne hfp
  | some v =>
    simp -implicitDefEqProofs (disch := (first | omega | fail)) only [go_sem, seval, ↓reduceIte, undefV, aluV, t11, x0, hs, hr, Wx]
    refine tail27 (w_set_eq (Heap.lt_of_get x0) rfl _) (xc.setR hd _) (C.f.keep72 (set72 x0)) ?_ C.ne Wx ?_ ?_
    · rw [w_set_ne (Heap.lt_of_get x0) C.ne]; exact hfp
    · simp -implicitDefEqProofs (disch := (first | omega | fail)) only [go_sem, seval, ↓reduceIte, t10]
    · simp -implicitDefEqProofs (disch := (first | omega | fail)) only [go_sem, seval, ↓reduceIte, t14]
set_option maxHeartbeats 4000000 in
theorem ex_12 (C : Ctx tr g xp ip fp n0 nops N opsv L Q q rs pc 12 d a b m W) (hfp : h0.get fp = g.get fp) : Goal27 h0 g tr xp fp n0 L Q q rs pc W (execO q L rs pc 12 d a b m) := by
  unfold Goal27 execO
  obtain ⟨ci, i0, i1, i2, i3⟩ := C.i
  obtain ⟨c, x0, xc⟩ := C.x
  have hs := xc.size; have hr := xc.ro
  have t0 := C.t0; have t1 := C.t1; have t8 := C.t8; have t10 := C.t10; have t11 := C.t11; have t12 := C.t12; have t13 := C.t13; have t14 := C.t14; have t15 := C.t15; have t16 := C.t16
  have hd := C.d16; have Wx := C.Wx
  have hd23 : d < 23 := by omega
  have hrd := xc.reg d hd
  have him := i_im m
  have him2 := i_im2 m
  obtain ⟨f, mm, hlk, hml, hF⟩ := C.o.look (op := 12) (by omega)
  rcases hF with ⟨e, _⟩ | ⟨_, rfl⟩ | ⟨e, _⟩
  · exact absurd e (by decide)
  rotate_left
  · unfold plainOp at e; omega
  simp only [Nat.reduceEqDiff, if_false]
  simp -implicitDefEqProofs (disch := (first | omega | fail)) only [go_sem, Nat.reduceAdd, Nat.reduceLT, Nat.reduceEqDiff, ↓reduceIte, ir27_r10_eq, ir27_s10, t1, t8, t12, t13, i0, i1, i2, ↓hlk]
  refine GCall.of (f44_ok (rs a) (rs b)) ?_
  rintro r g1 ⟨rfl, rfl⟩
  cases hal : alu 12 (rs a) (rs b) with
  | none =>
    simp -implicitDefEqProofs (disch := (first | omega | fail)) only [go_sem, seval, ↓reduceIte, reduceCtorEq, aluV, t0]
    refine GCall.of (end45_ok x0 xc 7 Wx) ?_
    rintro r g2 ⟨rfl, hst⟩
    simp -implicitDefEqProofs (disch := (first | omega | fail)) only [go_sem, seval, ↓reduceIte]
    exact hst.fin x0 C.f C.ne hfp
  | some v =>
    simp -implicitDefEqProofs (disch := (first | omega | fail)) only [go_sem, seval, ↓reduceIte, undefV, aluV, t11, x0, hs, hr, Wx]
    refine tail27 (w_set_eq (Heap.lt_of_get x0) rfl _) (xc.setR hd _) (C.f.keep72 (set72 x0)) ?_ C.ne Wx ?_ ?_
    · rw [w_set_ne (Heap.lt_of_get x0) C.ne]; exact hfp
    · simp -implicitDefEqProofs (disch := (first | omega | fail)) only [go_sem, seval, ↓reduceIte, t10]
    · simp -implicitDefEqProofs (disch := (first | omega | fail)) only [go_sem, seval, ↓reduceIte, t14]
set_option maxHeartbeats 4000000 in
theorem ex_13 (C : Ctx tr g xp ip fp n0 nops N opsv L Q q rs pc 13 d a b m W) (hfp : h0.get fp = g.get fp) : Goal27 h0 g tr xp fp n0 L Q q rs pc W (execO q L rs pc 13 d a b m) := by
  unfold Goal27 execO
  obtain ⟨ci, i0, i1, i2, i3⟩ := C.i
  obtain ⟨c, x0, xc⟩ := C.x
  have hs := xc.size; have hr := xc.ro
  have t0 := C.t0; have t1 := C.t1; have t8 := C.t8; have t10 := C.t10; have t11 := C.t11; have t12 := C.t12; have t13 := C.t13; have t14 := C.t14; have t15 := C.t15; have t16 := C.t16
  have hd := C.d16; have Wx := C.Wx
  have hd23 : d < 23 := by omega
  have hrd := xc.reg d hd
  have him := i_im m
  have him2 := i_im2 m
  obtain ⟨f, mm, hlk, hml, hF⟩ := C.o.look (op := 13) (by omega)
  rcases hF with ⟨e, _⟩ | ⟨e, _⟩ | ⟨e, bx, cb, rfl, b0, b1, b2, b3⟩
  · exact absurd e (by decide)
  · exact absurd e (by decide)
  simp only [Nat.reduceEqDiff, if_false]
  simp -implicitDefEqProofs (disch := (first | omega | fail)) only [go_sem, Nat.reduceAdd, Nat.reduceLT, Nat.reduceEqDiff, ↓reduceIte, ir27_r10_eq, ir27_s10, t1, t8, t12, t13, i0, i1, i2, ↓hlk]
  refine GCall.of (f34_ok (R := fun _ => True) (W := W) (op := 13) e b1 b2 b3 trivial (rs a) (rs b)) ?_
  rintro r g1 ⟨rfl, rfl⟩
  cases hal : alu 13 (rs a) (rs b) with
  | none =>
    simp -implicitDefEqProofs (disch := (first | omega | fail)) only [go_sem, seval, ↓reduceIte, reduceCtorEq, aluV, t0]
    refine GCall.of (end45_ok x0 xc 7 Wx) ?_
    rintro r g2 ⟨rfl, hst⟩
    simp -implicitDefEqProofs (disch := (first | omega | fail)) only [go_sem, seval, ↓reduceIte]
    exact hst.fin x0 C.f C.ne hfp
  | some v =>
    simp -implicitDefEqProofs (disch := (first | omega | fail)) only [go_sem, seval, ↓reduceIte, undefV, aluV, t11, x0, hs, hr, Wx]
    refine tail27 (w_set_eq (Heap.lt_of_get x0) rfl _) (xc.setR hd _) (C.f.keep72 (set72 x0)) ?_ C.ne Wx ?_ ?_
    · rw [w_set_ne (Heap.lt_of_get x0) C.ne]; exact hfp
    · simp -implicitDefEqProofs (disch := (first | omega | fail)) only [go_sem, seval, ↓reduceIte, t10]
    · simp -implicitDefEqProofs (disch := (first | omega | fail)) only [go_sem, seval, ↓reduceIte, t14]
set_option maxHeartbeats 4000000 in
theorem ex_14 (C : Ctx tr g xp ip fp n0 nops N opsv L Q q rs pc 14 d a b m W) (hfp : h0.get fp = g.get fp) : Goal27 h0 g tr xp fp n0 L Q q rs pc W (execO q L rs pc 14 d a b m) := by
  unfold Goal27 execO
  obtain ⟨ci, i0, i1, i2, i3⟩ := C.i
  obtain ⟨c, x0, xc⟩ := C.x
  have hs := xc.size; have hr := xc.ro
  have t0 := C.t0; have t1 := C.t1; have t8 := C.t8; have t10 := C.t10; have t11 := C.t11; have t12 := C.t12; have t13 := C.t13; have t14 := C.t14; have t15 := C.t15; have t16 := C.t16
  have hd := C.d16; have Wx := C.Wx
  have hd23 : d < 23 := by omega
  have hrd := xc.reg d hd
  have him := i_im m
  have him2 := i_im2 m
  obtain ⟨f, mm, hlk, hml, hF⟩ := C.o.look (op := 14) (by omega)
  rcases hF with ⟨e, _⟩ | ⟨e, _⟩ | ⟨e, bx, cb, rfl, b0, b1, b2, b3⟩
  · exact absurd e (by decide)
  · exact absurd e (by decide)
  simp only [Nat.reduceEqDiff, if_false]
  simp -implicitDefEqProofs (disch := (first | omega | fail)) only [go_sem, Nat.reduceAdd, Nat.reduceLT, Nat.reduceEqDiff, ↓reduceIte, ir27_r10_eq, ir27_s10, t1, t8, t12, t13, i0, i1, i2, ↓hlk]
  refine GCall.of (f34_ok (R := fun _ => True) (W := W) (op := 14) e b1 b2 b3 trivial (rs a) (rs b)) ?_
  rintro r g1 ⟨rfl, rfl⟩
  cases hal : alu 14 (rs a) (rs b) with
  | none =>
    simp -implicitDefEqProofs (disch := (first | omega | fail)) only [go_sem, seval, ↓reduceIte, reduceCtorEq, aluV, t0]
    refine GCall.of (end45_ok x0 xc 7 Wx) ?_
    rintro r g2 ⟨rfl, hst⟩
    simp -implicitDefEqProofs (disch := (first | omega | fail)) only [go_sem, seval, ↓reduceIte]
    exact hst.fin x0 C.f C.ne hfp
  | some v =>
    simp -implicitDefEqProofs (disch := (first | omega | fail)) only [go_sem, seval, ↓reduceIte, undefV, aluV, t11, x0, hs, hr, Wx]
    refine tail27 (w_set_eq (Heap.lt_of_get x0) rfl _) (xc.setR hd _) (C.f.keep72 (set72 x0)) ?_ C.ne Wx ?_ ?_
    · rw [w_set_ne (Heap.lt_of_get x0) C.ne]; exact hfp
    · simp -implicitDefEqProofs (disch := (first | omega | fail)) only [go_sem, seval, ↓reduceIte, t10]
    · simp -implicitDefEqProofs (disch := (first | omega | fail)) only [go_sem, seval, ↓reduceIte, t14]
set_option maxHeartbeats 4000000 in
theorem ex_15 (C : Ctx tr g xp ip fp n0 nops N opsv L Q q rs pc 15 d a b m W) (hfp : h0.get fp = g.get fp) : Goal27 h0 g tr xp fp n0 L Q q rs pc W (execO q L rs pc 15 d a b m) := by
  unfold Goal27 execO
  obtain ⟨ci, i0, i1, i2, i3⟩ := C.i
  obtain ⟨c, x0, xc⟩ := C.x
  have hs := xc.size; have hr := xc.ro
  have t0 := C.t0; have t1 := C.t1; have t8 := C.t8; have t10 := C.t10; have t11 := C.t11; have t12 := C.t12; have t13 := C.t13; have t14 := C.t14; have t15 := C.t15; have t16 := C.t16
  have hd := C.d16; have Wx := C.Wx
  have hd23 : d < 23 := by omega
  have hrd := xc.reg d hd
  have him := i_im m
  have him2 := i_im2 m
  obtain ⟨f, mm, hlk, hml, hF⟩ := C.o.look (op := 15) (by omega)
  rcases hF with ⟨e, _⟩ | ⟨e, _⟩ | ⟨e, bx, cb, rfl, b0, b1, b2, b3⟩
  · exact absurd e (by decide)
  · exact absurd e (by decide)
  simp only [Nat.reduceEqDiff, if_false]
  simp -implicitDefEqProofs (disch := (first | omega | fail)) only [go_sem, Nat.reduceAdd, Nat.reduceLT, Nat.reduceEqDiff, ↓reduceIte, ir27_r10_eq, ir27_s10, t1, t8, t12, t13, i0, i1, i2, ↓hlk]
  refine GCall.of (f34_ok (R := fun _ => True) (W := W) (op := 15) e b1 b2 b3 trivial (rs a) (rs b)) ?_
  rintro r g1 ⟨rfl, rfl⟩
  cases hal : alu 15 (rs a) (rs b) with
  | none =>
    simp -implicitDefEqProofs (disch := (first | omega | fail)) only [go_sem, seval, ↓reduceIte, reduceCtorEq, aluV, t0]
    refine GCall.of (end45_ok x0 xc 7 Wx) ?_
    rintro r g2 ⟨rfl, hst⟩
    simp -implicitDefEqProofs (disch := (first | omega | fail)) only [go_sem, seval, ↓reduceIte]
    exact hst.fin x0 C.f C.ne hfp
  | some v =>
    simp -implicitDefEqProofs (disch := (first | omega | fail)) only [go_sem, seval, ↓reduceIte, undefV, aluV, t11, x0, hs, hr, Wx]
    refine tail27 (w_set_eq (Heap.lt_of_get x0) rfl _) (xc.setR hd _) (C.f.keep72 (set72 x0)) ?_ C.ne Wx ?_ ?_
    · rw [w_set_ne (Heap.lt_of_get x0) C.ne]; exact hfp
    · simp -implicitDefEqProofs (disch := (first | omega | fail)) only [go_sem, seval, ↓reduceIte, t10]
    · simp -implicitDefEqProofs (disch := (first | omega | fail)) only [go_sem, seval, ↓reduceIte, t14]
set_option maxHeartbeats 4000000 in
theorem ex_16 (C : Ctx tr g xp ip fp n0 nops N opsv L Q q rs pc 16 d a b m W) (hfp : h0.get fp = g.get fp) : Goal27 h0 g tr xp fp n0 L Q q rs pc W (execO q L rs pc 16 d a b m) := by
  unfold Goal27 execO
  obtain ⟨ci, i0, i1, i2, i3⟩ := C.i
  obtain ⟨c, x0, xc⟩ := C.x
  have hs := xc.size; have hr := xc.ro
  have t0 := C.t0; have t1 := C.t1; have t8 := C.t8; have t10 := C.t10; have t11 := C.t11; have t12 := C.t12; have t13 := C.t13; have t14 := C.t14; have t15 := C.t15; have t16 := C.t16
  have hd := C.d16; have Wx := C.Wx
  have hd23 : d < 23 := by omega
  have hrd := xc.reg d hd
  have him := i_im m
  have him2 := i_im2 m
  obtain ⟨f, mm, hlk, hml, hF⟩ := C.o.look (op := 16) (by omega)
  rcases hF with ⟨e, _⟩ | ⟨e, _⟩ | ⟨e, bx, cb, rfl, b0, b1, b2, b3⟩
  · exact absurd e (by decide)
  · exact absurd e (by decide)
  simp only [Nat.reduceEqDiff, if_false]
  simp -implicitDefEqProofs (disch := (first | omega | fail)) only [go_sem, Nat.reduceAdd, Nat.reduceLT, Nat.reduceEqDiff, ↓reduceIte, ir27_r10_eq, ir27_s10, t1, t8, t12, t13, i0, i1, i2, ↓hlk]
  refine GCall.of (f34_ok (R := fun _ => True) (W := W) (op := 16) e b1 b2 b3 trivial (rs a) (rs b)) ?_
  rintro r g1 ⟨rfl, rfl⟩
  cases hal : alu 16 (rs a) (rs b) with
  | none =>
    simp -implicitDefEqProofs (disch := (first | omega | fail)) only [go_sem, seval, ↓reduceIte, reduceCtorEq, aluV, t0]
    refine GCall.of (end45_ok x0 xc 7 Wx) ?_
    rintro r g2 ⟨rfl, hst⟩
    simp -implicitDefEqProofs (disch := (first | omega | fail)) only [go_sem, seval, ↓reduceIte]
    exact hst.fin x0 C.f C.ne hfp
  | some v =>
    simp -implicitDefEqProofs (disch := (first | omega | fail)) only [go_sem, seval, ↓reduceIte, undefV, aluV, t11, x0, hs, hr, Wx]
    refine tail27 (w_set_eq (Heap.lt_of_get x0) rfl _) (xc.setR hd _) (C.f.keep72 (set72 x0)) ?_ C.ne Wx ?_ ?_
    · rw [w_set_ne (Heap.lt_of_get x0) C.ne]; exact hfp
    · simp -implicitDefEqProofs (disch := (first | omega | fail)) only [go_sem, seval, ↓reduceIte, t10]
    · simp -implicitDefEqProofs (disch := (first | omega | fail)) only [go_sem, seval, ↓reduceIte, t14]
set_option maxHeartbeats 4000000 in
theorem ex_17 (C : Ctx tr g xp ip fp n0 nops N opsv L Q q rs pc 17 d a b m W) (hfp : h0.get fp = g.get fp) : Goal27 h0 g tr xp fp n0 L Q q rs pc W (execO q L rs pc 17 d a b m) := by
  unfold Goal27 execO
  obtain ⟨ci, i0, i1, i2, i3⟩ := C.i
  obtain ⟨c, x0, xc⟩ := C.x
  have hs := xc.size; have hr := xc.ro
  have t0 := C.t0; have t1 := C.t1; have t8 := C.t8; have t10 := C.t10; have t11 := C.t11; have t12 := C.t12; have t13 := C.t13; have t14 := C.t14; have t15 := C.t15; have t16 := C.t16
  have hd := C.d16; have Wx := C.Wx
  have hd23 : d < 23 := by omega
  have hrd := xc.reg d hd
  have him := i_im m
  have him2 := i_im2 m
  obtain ⟨f, mm, hlk, hml, hF⟩ := C.o.look (op := 17) (by omega)
  rcases hF with ⟨e, _⟩ | ⟨e, _⟩ | ⟨e, bx, cb, rfl, b0, b1, b2, b3⟩
  · exact absurd e (by decide)
  · exact absurd e (by decide)
  simp only [Nat.reduceEqDiff, if_false]
  simp -implicitDefEqProofs (disch := (first | omega | fail)) only [go_sem, Nat.reduceAdd, Nat.reduceLT, Nat.reduceEqDiff, ↓reduceIte, ir27_r10_eq, ir27_s10, t1, t8, t12, t13, i0, i1, i2, ↓hlk]
  refine GCall.of (f34_ok (R := fun _ => True) (W := W) (op := 17) e b1 b2 b3 trivial (rs a) (rs b)) ?_
  rintro r g1 ⟨rfl, rfl⟩
  cases hal : alu 17 (rs a) (rs b) with
  | none =>
    simp -implicitDefEqProofs (disch := (first | omega | fail)) only [go_sem, seval, ↓reduceIte, reduceCtorEq, aluV, t0]
    refine GCall.of (end45_ok x0 xc 7 Wx) ?_
    rintro r g2 ⟨rfl, hst⟩
    simp -implicitDefEqProofs (disch := (first | omega | fail)) only [go_sem, seval, ↓reduceIte]
    exact hst.fin x0 C.f C.ne hfp
  | some v =>
    simp -implicitDefEqProofs (disch := (first | omega | fail)) only [go_sem, seval, ↓reduceIte, undefV, aluV, t11, x0, hs, hr, Wx]
    refine tail27 (w_set_eq (Heap.lt_of_get x0) rfl _) (xc.setR hd _) (C.f.keep72 (set72 x0)) ?_ C.ne Wx ?_ ?_
    · rw [w_set_ne (Heap.lt_of_get x0) C.ne]; exact hfp
    · simp -implicitDefEqProofs (disch := (first | omega | fail)) only [go_sem, seval, ↓reduceIte, t10]
    · simp -implicitDefEqProofs (disch := (first | omega | fail)) only [go_sem, seval, ↓reduceIte, t14]
end Go.Proofs.Ytmkdbninmimndaa
