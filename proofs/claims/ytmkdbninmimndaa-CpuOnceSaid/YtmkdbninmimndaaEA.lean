/- The document's step, op by op (printed by genEA.py). -/
import Derived.Test.YtmkdbninmimndaaE9
import Derived.Test.YtmkdbninmimndaaM3
set_option linter.unusedVariables false
set_option maxRecDepth 100000
namespace Go.Proofs.Ytmkdbninmimndaa
open Go Go.Vm
structure RCtx (tr : Tr V) (g : Heap) (sp ip k4 k5 rm n1 N : Nat) (vB vr : V) (L Q : List V) (q : Nat → Int) (rs : Regs) (pc : BitVec 32) (op d a b : Nat) (m : Int) (W : Set') : Prop where
  t1 : tr.get 1 = some (.ptr (some (rm, 0)))
  t2 : tr.get 2 = some (.ptr (some (sp, 0)))
  t4 : tr.get 4 = some (.ptr (some (k4, 0)))
  t5 : tr.get 5 = some (.ptr (some (k5, 0)))
  t8 : tr.get 8 = some (.ptr (some (ip, 0)))
  t10 : tr.get 10 = some (U (rs a))
  t11 : tr.get 11 = some (U (rs b))
  t12 : tr.get 12 = some (U (rs a + imW m))
  t13 : tr.get 13 = some (U (pc + 4#32 * imW m))
  t14 : tr.get 14 = some (U (pc + 4#32))
  i : ∃ ci, g.get ip = some (.cells ci 50) ∧ ci.size = 5 ∧ ci.get 0 = .int .i64 (op : Int) ∧ ci.get 1 = .int .i64 (d : Int) ∧ ci.get 4 = .int .i64 m
  x : ∃ c, g.get sp = some (.cells c 28) ∧ SC c rs pc
  r4 : ∃ c, g.get k4 = some (.cells c 28) ∧ c.size = 17 ∧ c.ro = false
  r5 : ∃ c, g.get k5 = some (.cells c 38) ∧ c.size = 5 ∧ c.ro = false
  mem : RM g rm n1 vB vr L
  rig : LV g vr Q ∧ L.length = Q.length * 256 ∧ Q.length ≤ 32 ∧ (∀ i, i < Q.length → Q[i]? = some (.int .i64 (q i))) ∧ BytL L
  d16 : d < 16
  ne : sp ≠ k4 ∧ sp ≠ k5 ∧ k4 ≠ k5
  Ws : W sp ∧ W k4 ∧ W k5
  Wm : ∀ b, b = sblk vB → n1 ≤ b → W b
  lt : n1 ≤ g.n
variable {h0 g : Heap} {tr : Tr V} {sp ip k4 k5 rm n1 N : Nat} {vB vr : V} {L Q : List V} {q : Nat → Int} {rs : Regs} {pc : BitVec 32} {op d a b : Nat} {m : Int} {W : Set'}
abbrev Goal28 (h0 g : Heap) (tr : Tr V) (rm n1 : Nat) (vB vr : V) (L : List V) (rs : Regs) (pc : BitVec 32) (W : Set') (o : Out) : Prop :=
  GO (Try.prog : MP) (fun _ => True) W none (Vm.Fin (Try.prog : MP) (fun _ => True) W [ResultVar.cell 4 28, ResultVar.cell 5 38] (RStepQ h0 rm n1 vB vr L rs pc o)) [.code ir28_r10] ⟨⟨297, tr⟩, []⟩ g
set_option maxHeartbeats 4000000 in
theorem rx_1 (C : RCtx tr g sp ip k4 k5 rm n1 N vB vr L Q q rs pc 1 d a b m W) : Goal28 h0 g tr rm n1 vB vr L rs pc W (execO q L rs pc 1 d a b m) := by
  unfold Goal28 execO
  obtain ⟨ci, i0, i1, i2, i3, i4⟩ := C.i
  obtain ⟨c, hx, hc⟩ := C.x
  obtain ⟨c4, h4, s4, q4⟩ := C.r4
  obtain ⟨c5, h5, s5, q5⟩ := C.r5
  have hs := hc.size; have hr := hc.ro; have hpc := hc.pc
  obtain ⟨e1, e2, e3⟩ := C.ne
  obtain ⟨w1, w2, w3⟩ := C.Ws
  have e1' := e1.symm; have e2' := e2.symm; have e3' := e3.symm
  have t1 := C.t1; have t2 := C.t2; have t4 := C.t4; have t5 := C.t5; have t8 := C.t8; have t10 := C.t10; have t11 := C.t11; have t12 := C.t12; have t13 := C.t13; have t14 := C.t14
  have hd := C.d16
  have hd17 : d < 17 := by omega
  have hrd := hc.reg d hd
  have him := i_im m
  have him2 := i_im2 m
  have l1 := Heap.lt_of_get hx; have l4 := Heap.lt_of_get h4; have l5 := Heap.lt_of_get h5
  have s38 : ∀ o, (g.set sp o).get k4 = some (.cells c4 28) := fun o => by rw [w_set_ne l1 e1']; exact h4
  have s39 : ∀ o, (g.set sp o).get k5 = some (.cells c5 38) := fun o => by rw [w_set_ne l1 e2']; exact h5
  simp -implicitDefEqProofs (disch := (first | omega | fail)) only [go_sem, seval, ↓reduceIte, ir28_r10_eq, ir28_s10, t8, i0, i1, i2]
  refine tail28 hx hc h4 ⟨s4, q4⟩ h5 ⟨s5, q5⟩ C.ne C.mem C.Ws ?_ ?_ ?_ ?_
  · simp -implicitDefEqProofs (disch := (first | omega | fail)) only [go_sem, seval, ↓reduceIte, t2]
  · simp -implicitDefEqProofs (disch := (first | omega | fail)) only [go_sem, seval, ↓reduceIte, t4]
  · simp -implicitDefEqProofs (disch := (first | omega | fail)) only [go_sem, seval, ↓reduceIte, t5]
  · simp -implicitDefEqProofs (disch := (first | omega | fail)) only [go_sem, seval, ↓reduceIte, t14]
set_option maxHeartbeats 4000000 in
theorem rx_2 (C : RCtx tr g sp ip k4 k5 rm n1 N vB vr L Q q rs pc 2 d a b m W) : Goal28 h0 g tr rm n1 vB vr L rs pc W (execO q L rs pc 2 d a b m) := by
  unfold Goal28 execO
  obtain ⟨ci, i0, i1, i2, i3, i4⟩ := C.i
  obtain ⟨c, hx, hc⟩ := C.x
  obtain ⟨c4, h4, s4, q4⟩ := C.r4
  obtain ⟨c5, h5, s5, q5⟩ := C.r5
  have hs := hc.size; have hr := hc.ro; have hpc := hc.pc
  obtain ⟨e1, e2, e3⟩ := C.ne
  obtain ⟨w1, w2, w3⟩ := C.Ws
  have e1' := e1.symm; have e2' := e2.symm; have e3' := e3.symm
  have t1 := C.t1; have t2 := C.t2; have t4 := C.t4; have t5 := C.t5; have t8 := C.t8; have t10 := C.t10; have t11 := C.t11; have t12 := C.t12; have t13 := C.t13; have t14 := C.t14
  have hd := C.d16
  have hd17 : d < 17 := by omega
  have hrd := hc.reg d hd
  have him := i_im m
  have him2 := i_im2 m
  have l1 := Heap.lt_of_get hx; have l4 := Heap.lt_of_get h4; have l5 := Heap.lt_of_get h5
  have s38 : ∀ o, (g.set sp o).get k4 = some (.cells c4 28) := fun o => by rw [w_set_ne l1 e1']; exact h4
  have s39 : ∀ o, (g.set sp o).get k5 = some (.cells c5 38) := fun o => by rw [w_set_ne l1 e2']; exact h5
  have a0 := hc.reg 0 (by omega)
  have a1 := hc.reg 1 (by omega)
  have a2 := hc.reg 2 (by omega)
  have a3 := hc.reg 3 (by omega)
  have a4 := hc.reg 4 (by omega)
  have a5 := hc.reg 5 (by omega)
  have a6 := hc.reg 6 (by omega)
  have a7 := hc.reg 7 (by omega)
  have a8 := hc.reg 8 (by omega)
  have a9 := hc.reg 9 (by omega)
  have a10 := hc.reg 10 (by omega)
  have a11 := hc.reg 11 (by omega)
  have a12 := hc.reg 12 (by omega)
  have a13 := hc.reg 13 (by omega)
  have a14 := hc.reg 14 (by omega)
  have a15 := hc.reg 15 (by omega)
  simp -implicitDefEqProofs (disch := (first | omega | (simp -implicitDefEqProofs only [szs, ne_eq] <;> omega) | fail)) only [go_sem, seval, ↓reduceIte, ir28_r10_eq, ir28_s10, undefV, t2, t4, t5, t8, i0, i1, i2, hx, hs, h4, s4, q4, h5, s5, q5, w2, w3, hpc, a0, a1, a2, a3, a4, a5, a6, a7, a8, a9, a10, a11, a12, a13, a14, a15]
  have hp : ∀ j, j < 17 → (c4.putA 0 [U (rs 0), U (rs 1), U (rs 2), U (rs 3), U (rs 4), U (rs 5), U (rs 6), U (rs 7), U (rs 8), U (rs 9), U (rs 10), U (rs 11), U (rs 12), U (rs 13), U (rs 14), U (rs 15), U pc]).get j = [U (rs 0), U (rs 1), U (rs 2), U (rs 3), U (rs 4), U (rs 5), U (rs 6), U (rs 7), U (rs 8), U (rs 9), U (rs 10), U (rs 11), U (rs 12), U (rs 13), U (rs 14), U (rs 15), U pc].getD j undefV := fun j hj => get_put17 s4 _ rfl j hj
  rw [hp 0 (by omega), hp 1 (by omega), hp 2 (by omega), hp 3 (by omega), hp 4 (by omega), hp 5 (by omega), hp 6 (by omega), hp 7 (by omega), hp 8 (by omega), hp 9 (by omega), hp 10 (by omega), hp 11 (by omega), hp 12 (by omega), hp 13 (by omega), hp 14 (by omega), hp 15 (by omega), hp 16 (by omega)]
  have y2 : ∀ o, (g.set k4 o).get k5 = some (.cells c5 38) := fun o => by rw [w_set_ne l4 e3']; exact h5
  exact ⟨rfl, C.mem.keep fun b d e n1 n2 n3 hb => set_e (y2 _) b d e n2 (set_e h4 b d e n1 hb)⟩
set_option maxHeartbeats 4000000 in
theorem rx_4 (C : RCtx tr g sp ip k4 k5 rm n1 N vB vr L Q q rs pc 4 d a b m W) : Goal28 h0 g tr rm n1 vB vr L rs pc W (execO q L rs pc 4 d a b m) := by
  unfold Goal28 execO
  obtain ⟨ci, i0, i1, i2, i3, i4⟩ := C.i
  obtain ⟨c, hx, hc⟩ := C.x
  obtain ⟨c4, h4, s4, q4⟩ := C.r4
  obtain ⟨c5, h5, s5, q5⟩ := C.r5
  have hs := hc.size; have hr := hc.ro; have hpc := hc.pc
  obtain ⟨e1, e2, e3⟩ := C.ne
  obtain ⟨w1, w2, w3⟩ := C.Ws
  have e1' := e1.symm; have e2' := e2.symm; have e3' := e3.symm
  have t1 := C.t1; have t2 := C.t2; have t4 := C.t4; have t5 := C.t5; have t8 := C.t8; have t10 := C.t10; have t11 := C.t11; have t12 := C.t12; have t13 := C.t13; have t14 := C.t14
  have hd := C.d16
  have hd17 : d < 17 := by omega
  have hrd := hc.reg d hd
  have him := i_im m
  have him2 := i_im2 m
  have l1 := Heap.lt_of_get hx; have l4 := Heap.lt_of_get h4; have l5 := Heap.lt_of_get h5
  have s38 : ∀ o, (g.set sp o).get k4 = some (.cells c4 28) := fun o => by rw [w_set_ne l1 e1']; exact h4
  have s39 : ∀ o, (g.set sp o).get k5 = some (.cells c5 38) := fun o => by rw [w_set_ne l1 e2']; exact h5
  have a0 := hc.reg 0 (by omega)
  have a1 := hc.reg 1 (by omega)
  have a2 := hc.reg 2 (by omega)
  have a3 := hc.reg 3 (by omega)
  have a4 := hc.reg 4 (by omega)
  have a5 := hc.reg 5 (by omega)
  have a6 := hc.reg 6 (by omega)
  have a7 := hc.reg 7 (by omega)
  have a8 := hc.reg 8 (by omega)
  have a9 := hc.reg 9 (by omega)
  have a10 := hc.reg 10 (by omega)
  have a11 := hc.reg 11 (by omega)
  have a12 := hc.reg 12 (by omega)
  have a13 := hc.reg 13 (by omega)
  have a14 := hc.reg 14 (by omega)
  have a15 := hc.reg 15 (by omega)
  simp -implicitDefEqProofs (disch := (first | omega | (simp -implicitDefEqProofs only [szs, ne_eq] <;> omega) | fail)) only [go_sem, seval, ↓reduceIte, ir28_r10_eq, ir28_s10, undefV, t2, t4, t5, t8, i0, i1, i2, hx, hs, h4, s4, q4, h5, s5, q5, w2, w3, hpc, a0, a1, a2, a3, a4, a5, a6, a7, a8, a9, a10, a11, a12, a13, a14, a15]
  have hp : ∀ j, j < 17 → (c4.putA 0 [U (rs 0), U (rs 1), U (rs 2), U (rs 3), U (rs 4), U (rs 5), U (rs 6), U (rs 7), U (rs 8), U (rs 9), U (rs 10), U (rs 11), U (rs 12), U (rs 13), U (rs 14), U (rs 15), U pc]).get j = [U (rs 0), U (rs 1), U (rs 2), U (rs 3), U (rs 4), U (rs 5), U (rs 6), U (rs 7), U (rs 8), U (rs 9), U (rs 10), U (rs 11), U (rs 12), U (rs 13), U (rs 14), U (rs 15), U pc].getD j undefV := fun j hj => get_put17 s4 _ rfl j hj
  rw [hp 0 (by omega), hp 1 (by omega), hp 2 (by omega), hp 3 (by omega), hp 4 (by omega), hp 5 (by omega), hp 6 (by omega), hp 7 (by omega), hp 8 (by omega), hp 9 (by omega), hp 10 (by omega), hp 11 (by omega), hp 12 (by omega), hp 13 (by omega), hp 14 (by omega), hp 15 (by omega), hp 16 (by omega)]
  have y2 : ∀ o, (g.set k4 o).get k5 = some (.cells c5 38) := fun o => by rw [w_set_ne l4 e3']; exact h5
  exact ⟨rfl, C.mem.keep fun b d e n1 n2 n3 hb => set_e (y2 _) b d e n2 (set_e h4 b d e n1 hb)⟩
set_option maxHeartbeats 4000000 in
theorem rx_3 (C : RCtx tr g sp ip k4 k5 rm n1 N vB vr L Q q rs pc 3 d a b m W) : Goal28 h0 g tr rm n1 vB vr L rs pc W (execO q L rs pc 3 d a b m) := by
  unfold Goal28 execO
  obtain ⟨ci, i0, i1, i2, i3, i4⟩ := C.i
  obtain ⟨c, hx, hc⟩ := C.x
  obtain ⟨c4, h4, s4, q4⟩ := C.r4
  obtain ⟨c5, h5, s5, q5⟩ := C.r5
  have hs := hc.size; have hr := hc.ro; have hpc := hc.pc
  obtain ⟨e1, e2, e3⟩ := C.ne
  obtain ⟨w1, w2, w3⟩ := C.Ws
  have e1' := e1.symm; have e2' := e2.symm; have e3' := e3.symm
  have t1 := C.t1; have t2 := C.t2; have t4 := C.t4; have t5 := C.t5; have t8 := C.t8; have t10 := C.t10; have t11 := C.t11; have t12 := C.t12; have t13 := C.t13; have t14 := C.t14
  have hd := C.d16
  have hd17 : d < 17 := by omega
  have hrd := hc.reg d hd
  have him := i_im m
  have him2 := i_im2 m
  have l1 := Heap.lt_of_get hx; have l4 := Heap.lt_of_get h4; have l5 := Heap.lt_of_get h5
  have s38 : ∀ o, (g.set sp o).get k4 = some (.cells c4 28) := fun o => by rw [w_set_ne l1 e1']; exact h4
  have s39 : ∀ o, (g.set sp o).get k5 = some (.cells c5 38) := fun o => by rw [w_set_ne l1 e2']; exact h5
  have a0 := hc.reg 0 (by omega)
  have a1 := hc.reg 1 (by omega)
  have a2 := hc.reg 2 (by omega)
  have a3 := hc.reg 3 (by omega)
  have a4 := hc.reg 4 (by omega)
  have a5 := hc.reg 5 (by omega)
  have a6 := hc.reg 6 (by omega)
  have a7 := hc.reg 7 (by omega)
  have a8 := hc.reg 8 (by omega)
  have a9 := hc.reg 9 (by omega)
  have a10 := hc.reg 10 (by omega)
  have a11 := hc.reg 11 (by omega)
  have a12 := hc.reg 12 (by omega)
  have a13 := hc.reg 13 (by omega)
  have a14 := hc.reg 14 (by omega)
  have a15 := hc.reg 15 (by omega)
  have e4 : ip ≠ k4 := fun e => by rw [e, h4] at i0; simp at i0
  simp -implicitDefEqProofs (disch := (first | omega | (simp -implicitDefEqProofs only [szs, ne_eq] <;> omega) | fail)) only [go_sem, seval, ↓reduceIte, ir28_r10_eq, ir28_s10, undefV, t2, t4, t5, t8, i0, i1, i2, i4, hx, hs, h4, s4, q4, h5, s5, q5, w2, w3, hpc, a0, a1, a2, a3, a4, a5, a6, a7, a8, a9, a10, a11, a12, a13, a14, a15]
  refine ⟨?_, ?_⟩
  · simp only [List.not_mem_nil, or_false, false_or, and_false, implies_true, not_false_eq_true, List.mem_cons, and_true]
    and_intros
    all_goals (intros; omega)
  have hp : ∀ j, j < 17 → (c4.putA 0 [U (rs 0), U (rs 1), U (rs 2), U (rs 3), U (rs 4), U (rs 5), U (rs 6), U (rs 7), U (rs 8), U (rs 9), U (rs 10), U (rs 11), U (rs 12), U (rs 13), U (rs 14), U (rs 15), U pc]).get j = [U (rs 0), U (rs 1), U (rs 2), U (rs 3), U (rs 4), U (rs 5), U (rs 6), U (rs 7), U (rs 8), U (rs 9), U (rs 10), U (rs 11), U (rs 12), U (rs 13), U (rs 14), U (rs 15), U pc].getD j undefV := fun j hj => get_put17 s4 _ rfl j hj
  rw [hp 0 (by omega), hp 1 (by omega), hp 2 (by omega), hp 3 (by omega), hp 4 (by omega), hp 5 (by omega), hp 6 (by omega), hp 7 (by omega), hp 8 (by omega), hp 9 (by omega), hp 10 (by omega), hp 11 (by omega), hp 12 (by omega), hp 13 (by omega), hp 14 (by omega), hp 15 (by omega), hp 16 (by omega)]
  have y2 : ∀ o, (g.set k4 o).get k5 = some (.cells c5 38) := fun o => by rw [w_set_ne l4 e3']; exact h5
  exact ⟨rfl, C.mem.keep fun b d e n1 n2 n3 hb => set_e (y2 _) b d e n2 (set_e h4 b d e n1 hb)⟩
set_option maxHeartbeats 4000000 in
theorem rx_5 (C : RCtx tr g sp ip k4 k5 rm n1 N vB vr L Q q rs pc 5 d a b m W) : Goal28 h0 g tr rm n1 vB vr L rs pc W (execO q L rs pc 5 d a b m) := by
  unfold Goal28 execO
  obtain ⟨ci, i0, i1, i2, i3, i4⟩ := C.i
  obtain ⟨c, hx, hc⟩ := C.x
  obtain ⟨c4, h4, s4, q4⟩ := C.r4
  obtain ⟨c5, h5, s5, q5⟩ := C.r5
  have hs := hc.size; have hr := hc.ro; have hpc := hc.pc
  obtain ⟨e1, e2, e3⟩ := C.ne
  obtain ⟨w1, w2, w3⟩ := C.Ws
  have e1' := e1.symm; have e2' := e2.symm; have e3' := e3.symm
  have t1 := C.t1; have t2 := C.t2; have t4 := C.t4; have t5 := C.t5; have t8 := C.t8; have t10 := C.t10; have t11 := C.t11; have t12 := C.t12; have t13 := C.t13; have t14 := C.t14
  have hd := C.d16
  have hd17 : d < 17 := by omega
  have hrd := hc.reg d hd
  have him := i_im m
  have him2 := i_im2 m
  have l1 := Heap.lt_of_get hx; have l4 := Heap.lt_of_get h4; have l5 := Heap.lt_of_get h5
  have s38 : ∀ o, (g.set sp o).get k4 = some (.cells c4 28) := fun o => by rw [w_set_ne l1 e1']; exact h4
  have s39 : ∀ o, (g.set sp o).get k5 = some (.cells c5 38) := fun o => by rw [w_set_ne l1 e2']; exact h5
  simp -implicitDefEqProofs (disch := (first | omega | fail)) only [go_sem, seval, ↓reduceIte, ir28_r10_eq, ir28_s10, undefV, t2, t8, i0, i1, i2, i3, i4, hx, hs, hr, w1, ↓cv3_21, c3_21, ↓cv21_25, c21_25, him]
  refine tail28 (w_set_eq l1 rfl _) (hc.setR hd _) (s38 _) ⟨s4, q4⟩ (s39 _) ⟨s5, q5⟩ C.ne (C.mem.keep fun b d e n1 n2 n3 hb => set_e hx b d e n1 hb) C.Ws ?_ ?_ ?_ ?_
  · simp -implicitDefEqProofs (disch := (first | omega | fail)) only [go_sem, seval, ↓reduceIte, t2]
  · simp -implicitDefEqProofs (disch := (first | omega | fail)) only [go_sem, seval, ↓reduceIte, t4]
  · simp -implicitDefEqProofs (disch := (first | omega | fail)) only [go_sem, seval, ↓reduceIte, t5]
  · simp -implicitDefEqProofs (disch := (first | omega | fail)) only [go_sem, seval, ↓reduceIte, t14]
set_option maxHeartbeats 4000000 in
theorem rx_7 (C : RCtx tr g sp ip k4 k5 rm n1 N vB vr L Q q rs pc 7 d a b m W) : Goal28 h0 g tr rm n1 vB vr L rs pc W (execO q L rs pc 7 d a b m) := by
  unfold Goal28 execO
  obtain ⟨ci, i0, i1, i2, i3, i4⟩ := C.i
  obtain ⟨c, hx, hc⟩ := C.x
  obtain ⟨c4, h4, s4, q4⟩ := C.r4
  obtain ⟨c5, h5, s5, q5⟩ := C.r5
  have hs := hc.size; have hr := hc.ro; have hpc := hc.pc
  obtain ⟨e1, e2, e3⟩ := C.ne
  obtain ⟨w1, w2, w3⟩ := C.Ws
  have e1' := e1.symm; have e2' := e2.symm; have e3' := e3.symm
  have t1 := C.t1; have t2 := C.t2; have t4 := C.t4; have t5 := C.t5; have t8 := C.t8; have t10 := C.t10; have t11 := C.t11; have t12 := C.t12; have t13 := C.t13; have t14 := C.t14
  have hd := C.d16
  have hd17 : d < 17 := by omega
  have hrd := hc.reg d hd
  have him := i_im m
  have him2 := i_im2 m
  have l1 := Heap.lt_of_get hx; have l4 := Heap.lt_of_get h4; have l5 := Heap.lt_of_get h5
  have s38 : ∀ o, (g.set sp o).get k4 = some (.cells c4 28) := fun o => by rw [w_set_ne l1 e1']; exact h4
  have s39 : ∀ o, (g.set sp o).get k5 = some (.cells c5 38) := fun o => by rw [w_set_ne l1 e2']; exact h5
  simp -implicitDefEqProofs (disch := (first | omega | fail)) only [go_sem, seval, ↓reduceIte, ir28_r10_eq, ir28_s10, undefV, t2, t8, t10, i0, i1, i2, i3, hx, hs, hr, w1]
  refine tail28 (w_set_eq l1 rfl _) (hc.setR hd _) (s38 _) ⟨s4, q4⟩ (s39 _) ⟨s5, q5⟩ C.ne (C.mem.keep fun b d e n1 n2 n3 hb => set_e hx b d e n1 hb) C.Ws ?_ ?_ ?_ ?_
  · simp -implicitDefEqProofs (disch := (first | omega | fail)) only [go_sem, seval, ↓reduceIte, t2]
  · simp -implicitDefEqProofs (disch := (first | omega | fail)) only [go_sem, seval, ↓reduceIte, t4]
  · simp -implicitDefEqProofs (disch := (first | omega | fail)) only [go_sem, seval, ↓reduceIte, t5]
  · simp -implicitDefEqProofs (disch := (first | omega | fail)) only [go_sem, seval, ↓reduceIte, t14]
set_option maxHeartbeats 4000000 in
theorem rx_18 (C : RCtx tr g sp ip k4 k5 rm n1 N vB vr L Q q rs pc 18 d a b m W) : Goal28 h0 g tr rm n1 vB vr L rs pc W (execO q L rs pc 18 d a b m) := by
  unfold Goal28 execO
  obtain ⟨ci, i0, i1, i2, i3, i4⟩ := C.i
  obtain ⟨c, hx, hc⟩ := C.x
  obtain ⟨c4, h4, s4, q4⟩ := C.r4
  obtain ⟨c5, h5, s5, q5⟩ := C.r5
  have hs := hc.size; have hr := hc.ro; have hpc := hc.pc
  obtain ⟨e1, e2, e3⟩ := C.ne
  obtain ⟨w1, w2, w3⟩ := C.Ws
  have e1' := e1.symm; have e2' := e2.symm; have e3' := e3.symm
  have t1 := C.t1; have t2 := C.t2; have t4 := C.t4; have t5 := C.t5; have t8 := C.t8; have t10 := C.t10; have t11 := C.t11; have t12 := C.t12; have t13 := C.t13; have t14 := C.t14
  have hd := C.d16
  have hd17 : d < 17 := by omega
  have hrd := hc.reg d hd
  have him := i_im m
  have him2 := i_im2 m
  have l1 := Heap.lt_of_get hx; have l4 := Heap.lt_of_get h4; have l5 := Heap.lt_of_get h5
  have s38 : ∀ o, (g.set sp o).get k4 = some (.cells c4 28) := fun o => by rw [w_set_ne l1 e1']; exact h4
  have s39 : ∀ o, (g.set sp o).get k5 = some (.cells c5 38) := fun o => by rw [w_set_ne l1 e2']; exact h5
  simp -implicitDefEqProofs (disch := (first | omega | fail)) only [go_sem, seval, ↓reduceIte, ir28_r10_eq, ir28_s10, undefV, t2, t8, t12, i0, i1, i2, i3, hx, hs, hr, w1]
  refine tail28 (w_set_eq l1 rfl _) (hc.setR hd _) (s38 _) ⟨s4, q4⟩ (s39 _) ⟨s5, q5⟩ C.ne (C.mem.keep fun b d e n1 n2 n3 hb => set_e hx b d e n1 hb) C.Ws ?_ ?_ ?_ ?_
  · simp -implicitDefEqProofs (disch := (first | omega | fail)) only [go_sem, seval, ↓reduceIte, t2]
  · simp -implicitDefEqProofs (disch := (first | omega | fail)) only [go_sem, seval, ↓reduceIte, t4]
  · simp -implicitDefEqProofs (disch := (first | omega | fail)) only [go_sem, seval, ↓reduceIte, t5]
  · simp -implicitDefEqProofs (disch := (first | omega | fail)) only [go_sem, seval, ↓reduceIte, t14]
set_option maxHeartbeats 4000000 in
theorem rx_25 (C : RCtx tr g sp ip k4 k5 rm n1 N vB vr L Q q rs pc 25 d a b m W) : Goal28 h0 g tr rm n1 vB vr L rs pc W (execO q L rs pc 25 d a b m) := by
  unfold Goal28 execO
  obtain ⟨ci, i0, i1, i2, i3, i4⟩ := C.i
  obtain ⟨c, hx, hc⟩ := C.x
  obtain ⟨c4, h4, s4, q4⟩ := C.r4
  obtain ⟨c5, h5, s5, q5⟩ := C.r5
  have hs := hc.size; have hr := hc.ro; have hpc := hc.pc
  obtain ⟨e1, e2, e3⟩ := C.ne
  obtain ⟨w1, w2, w3⟩ := C.Ws
  have e1' := e1.symm; have e2' := e2.symm; have e3' := e3.symm
  have t1 := C.t1; have t2 := C.t2; have t4 := C.t4; have t5 := C.t5; have t8 := C.t8; have t10 := C.t10; have t11 := C.t11; have t12 := C.t12; have t13 := C.t13; have t14 := C.t14
  have hd := C.d16
  have hd17 : d < 17 := by omega
  have hrd := hc.reg d hd
  have him := i_im m
  have him2 := i_im2 m
  have l1 := Heap.lt_of_get hx; have l4 := Heap.lt_of_get h4; have l5 := Heap.lt_of_get h5
  have s38 : ∀ o, (g.set sp o).get k4 = some (.cells c4 28) := fun o => by rw [w_set_ne l1 e1']; exact h4
  have s39 : ∀ o, (g.set sp o).get k5 = some (.cells c5 38) := fun o => by rw [w_set_ne l1 e2']; exact h5
  simp -implicitDefEqProofs (disch := (first | omega | fail)) only [go_sem, seval, ↓reduceIte, ir28_r10_eq, ir28_s10, undefV, t2, t8, t13, t14, i0, i1, i2, i3, hx, hs, hr, w1]
  refine tail28 (w_set_eq l1 rfl _) (hc.setR hd _) (s38 _) ⟨s4, q4⟩ (s39 _) ⟨s5, q5⟩ C.ne (C.mem.keep fun b d e n1 n2 n3 hb => set_e hx b d e n1 hb) C.Ws ?_ ?_ ?_ ?_
  · simp -implicitDefEqProofs (disch := (first | omega | fail)) only [go_sem, seval, ↓reduceIte, t2]
  · simp -implicitDefEqProofs (disch := (first | omega | fail)) only [go_sem, seval, ↓reduceIte, t4]
  · simp -implicitDefEqProofs (disch := (first | omega | fail)) only [go_sem, seval, ↓reduceIte, t5]
  · simp -implicitDefEqProofs (disch := (first | omega | fail)) only [go_sem, seval, ↓reduceIte]
set_option maxHeartbeats 4000000 in
theorem rx_23 (C : RCtx tr g sp ip k4 k5 rm n1 N vB vr L Q q rs pc 23 d a b m W) : Goal28 h0 g tr rm n1 vB vr L rs pc W (execO q L rs pc 23 d a b m) := by
  unfold Goal28 execO
  obtain ⟨ci, i0, i1, i2, i3, i4⟩ := C.i
  obtain ⟨c, hx, hc⟩ := C.x
  obtain ⟨c4, h4, s4, q4⟩ := C.r4
  obtain ⟨c5, h5, s5, q5⟩ := C.r5
  have hs := hc.size; have hr := hc.ro; have hpc := hc.pc
  obtain ⟨e1, e2, e3⟩ := C.ne
  obtain ⟨w1, w2, w3⟩ := C.Ws
  have e1' := e1.symm; have e2' := e2.symm; have e3' := e3.symm
  have t1 := C.t1; have t2 := C.t2; have t4 := C.t4; have t5 := C.t5; have t8 := C.t8; have t10 := C.t10; have t11 := C.t11; have t12 := C.t12; have t13 := C.t13; have t14 := C.t14
  have hd := C.d16
  have hd17 : d < 17 := by omega
  have hrd := hc.reg d hd
  have him := i_im m
  have him2 := i_im2 m
  have l1 := Heap.lt_of_get hx; have l4 := Heap.lt_of_get h4; have l5 := Heap.lt_of_get h5
  have s38 : ∀ o, (g.set sp o).get k4 = some (.cells c4 28) := fun o => by rw [w_set_ne l1 e1']; exact h4
  have s39 : ∀ o, (g.set sp o).get k5 = some (.cells c5 38) := fun o => by rw [w_set_ne l1 e2']; exact h5
  simp -implicitDefEqProofs (disch := (first | omega | fail)) only [go_sem, seval, ↓reduceIte, ir28_r10_eq, ir28_s10, t8, t13, i0, i1, i2]
  refine tail28 hx hc h4 ⟨s4, q4⟩ h5 ⟨s5, q5⟩ C.ne C.mem C.Ws ?_ ?_ ?_ ?_
  · simp -implicitDefEqProofs (disch := (first | omega | fail)) only [go_sem, seval, ↓reduceIte, t2]
  · simp -implicitDefEqProofs (disch := (first | omega | fail)) only [go_sem, seval, ↓reduceIte, t4]
  · simp -implicitDefEqProofs (disch := (first | omega | fail)) only [go_sem, seval, ↓reduceIte, t5]
  · simp -implicitDefEqProofs (disch := (first | omega | fail)) only [go_sem, seval, ↓reduceIte]
set_option maxHeartbeats 4000000 in
theorem rx_24 (C : RCtx tr g sp ip k4 k5 rm n1 N vB vr L Q q rs pc 24 d a b m W) : Goal28 h0 g tr rm n1 vB vr L rs pc W (execO q L rs pc 24 d a b m) := by
  unfold Goal28 execO
  obtain ⟨ci, i0, i1, i2, i3, i4⟩ := C.i
  obtain ⟨c, hx, hc⟩ := C.x
  obtain ⟨c4, h4, s4, q4⟩ := C.r4
  obtain ⟨c5, h5, s5, q5⟩ := C.r5
  have hs := hc.size; have hr := hc.ro; have hpc := hc.pc
  obtain ⟨e1, e2, e3⟩ := C.ne
  obtain ⟨w1, w2, w3⟩ := C.Ws
  have e1' := e1.symm; have e2' := e2.symm; have e3' := e3.symm
  have t1 := C.t1; have t2 := C.t2; have t4 := C.t4; have t5 := C.t5; have t8 := C.t8; have t10 := C.t10; have t11 := C.t11; have t12 := C.t12; have t13 := C.t13; have t14 := C.t14
  have hd := C.d16
  have hd17 : d < 17 := by omega
  have hrd := hc.reg d hd
  have him := i_im m
  have him2 := i_im2 m
  have l1 := Heap.lt_of_get hx; have l4 := Heap.lt_of_get h4; have l5 := Heap.lt_of_get h5
  have s38 : ∀ o, (g.set sp o).get k4 = some (.cells c4 28) := fun o => by rw [w_set_ne l1 e1']; exact h4
  have s39 : ∀ o, (g.set sp o).get k5 = some (.cells c5 38) := fun o => by rw [w_set_ne l1 e2']; exact h5
  simp -implicitDefEqProofs (disch := (first | omega | fail)) only [go_sem, seval, ↓reduceIte, ir28_r10_eq, ir28_s10, t8, t10, i0, i1, i2]
  refine tail28 hx hc h4 ⟨s4, q4⟩ h5 ⟨s5, q5⟩ C.ne C.mem C.Ws ?_ ?_ ?_ ?_
  · simp -implicitDefEqProofs (disch := (first | omega | fail)) only [go_sem, seval, ↓reduceIte, t2]
  · simp -implicitDefEqProofs (disch := (first | omega | fail)) only [go_sem, seval, ↓reduceIte, t4]
  · simp -implicitDefEqProofs (disch := (first | omega | fail)) only [go_sem, seval, ↓reduceIte, t5]
  · simp -implicitDefEqProofs (disch := (first | omega | fail)) only [go_sem, seval, ↓reduceIte]
set_option maxHeartbeats 4000000 in
theorem rx_26 (C : RCtx tr g sp ip k4 k5 rm n1 N vB vr L Q q rs pc 26 d a b m W) : Goal28 h0 g tr rm n1 vB vr L rs pc W (execO q L rs pc 26 d a b m) := by
  unfold Goal28 execO
  obtain ⟨ci, i0, i1, i2, i3, i4⟩ := C.i
  obtain ⟨c, hx, hc⟩ := C.x
  obtain ⟨c4, h4, s4, q4⟩ := C.r4
  obtain ⟨c5, h5, s5, q5⟩ := C.r5
  have hs := hc.size; have hr := hc.ro; have hpc := hc.pc
  obtain ⟨e1, e2, e3⟩ := C.ne
  obtain ⟨w1, w2, w3⟩ := C.Ws
  have e1' := e1.symm; have e2' := e2.symm; have e3' := e3.symm
  have t1 := C.t1; have t2 := C.t2; have t4 := C.t4; have t5 := C.t5; have t8 := C.t8; have t10 := C.t10; have t11 := C.t11; have t12 := C.t12; have t13 := C.t13; have t14 := C.t14
  have hd := C.d16
  have hd17 : d < 17 := by omega
  have hrd := hc.reg d hd
  have him := i_im m
  have him2 := i_im2 m
  have l1 := Heap.lt_of_get hx; have l4 := Heap.lt_of_get h4; have l5 := Heap.lt_of_get h5
  have s38 : ∀ o, (g.set sp o).get k4 = some (.cells c4 28) := fun o => by rw [w_set_ne l1 e1']; exact h4
  have s39 : ∀ o, (g.set sp o).get k5 = some (.cells c5 38) := fun o => by rw [w_set_ne l1 e2']; exact h5
  by_cases e : rs d = rs a
  · have e' : (rs d == rs a) = true := by simpa using e
    simp only [e, if_true]
    rw [e] at e' hrd
    simp -implicitDefEqProofs (disch := (first | omega | fail)) only [go_sem, seval, ↓reduceIte, ir28_r10_eq, ir28_s10, t2, t8, t10, t13, i0, i1, i2, i3, hx, hs, hrd, ↓b_eql, e']
    refine tail28 hx hc h4 ⟨s4, q4⟩ h5 ⟨s5, q5⟩ C.ne C.mem C.Ws ?_ ?_ ?_ ?_
    · simp -implicitDefEqProofs (disch := (first | omega | fail)) only [go_sem, seval, ↓reduceIte, t2]
    · simp -implicitDefEqProofs (disch := (first | omega | fail)) only [go_sem, seval, ↓reduceIte, t4]
    · simp -implicitDefEqProofs (disch := (first | omega | fail)) only [go_sem, seval, ↓reduceIte, t5]
    · simp -implicitDefEqProofs (disch := (first | omega | fail)) only [go_sem, seval, ↓reduceIte]
  · have e' : (rs d == rs a) = false := by simpa using e
    simp only [e, if_false]
    simp -implicitDefEqProofs (disch := (first | omega | fail)) only [go_sem, seval, ↓reduceIte, ir28_r10_eq, ir28_s10, t2, t8, t10, i0, i1, i2, i3, hx, hs, hrd, ↓b_eql, e']
    refine tail28 hx hc h4 ⟨s4, q4⟩ h5 ⟨s5, q5⟩ C.ne C.mem C.Ws ?_ ?_ ?_ ?_
    · simp -implicitDefEqProofs (disch := (first | omega | fail)) only [go_sem, seval, ↓reduceIte, t2]
    · simp -implicitDefEqProofs (disch := (first | omega | fail)) only [go_sem, seval, ↓reduceIte, t4]
    · simp -implicitDefEqProofs (disch := (first | omega | fail)) only [go_sem, seval, ↓reduceIte, t5]
    · simp -implicitDefEqProofs (disch := (first | omega | fail)) only [go_sem, seval, ↓reduceIte, t14]
set_option maxHeartbeats 4000000 in
theorem rx_27 (C : RCtx tr g sp ip k4 k5 rm n1 N vB vr L Q q rs pc 27 d a b m W) : Goal28 h0 g tr rm n1 vB vr L rs pc W (execO q L rs pc 27 d a b m) := by
  unfold Goal28 execO
  obtain ⟨ci, i0, i1, i2, i3, i4⟩ := C.i
  obtain ⟨c, hx, hc⟩ := C.x
  obtain ⟨c4, h4, s4, q4⟩ := C.r4
  obtain ⟨c5, h5, s5, q5⟩ := C.r5
  have hs := hc.size; have hr := hc.ro; have hpc := hc.pc
  obtain ⟨e1, e2, e3⟩ := C.ne
  obtain ⟨w1, w2, w3⟩ := C.Ws
  have e1' := e1.symm; have e2' := e2.symm; have e3' := e3.symm
  have t1 := C.t1; have t2 := C.t2; have t4 := C.t4; have t5 := C.t5; have t8 := C.t8; have t10 := C.t10; have t11 := C.t11; have t12 := C.t12; have t13 := C.t13; have t14 := C.t14
  have hd := C.d16
  have hd17 : d < 17 := by omega
  have hrd := hc.reg d hd
  have him := i_im m
  have him2 := i_im2 m
  have l1 := Heap.lt_of_get hx; have l4 := Heap.lt_of_get h4; have l5 := Heap.lt_of_get h5
  have s38 : ∀ o, (g.set sp o).get k4 = some (.cells c4 28) := fun o => by rw [w_set_ne l1 e1']; exact h4
  have s39 : ∀ o, (g.set sp o).get k5 = some (.cells c5 38) := fun o => by rw [w_set_ne l1 e2']; exact h5
  by_cases e : rs d = rs a
  · have e' : (rs d == rs a) = true := by simpa using e
    simp only [e, if_true]
    rw [e] at e' hrd
    simp -implicitDefEqProofs (disch := (first | omega | fail)) only [go_sem, seval, ↓reduceIte, ir28_r10_eq, ir28_s10, t2, t8, t10, i0, i1, i2, i3, hx, hs, hrd, ↓b_neq, e']
    refine tail28 hx hc h4 ⟨s4, q4⟩ h5 ⟨s5, q5⟩ C.ne C.mem C.Ws ?_ ?_ ?_ ?_
    · simp -implicitDefEqProofs (disch := (first | omega | fail)) only [go_sem, seval, ↓reduceIte, t2]
    · simp -implicitDefEqProofs (disch := (first | omega | fail)) only [go_sem, seval, ↓reduceIte, t4]
    · simp -implicitDefEqProofs (disch := (first | omega | fail)) only [go_sem, seval, ↓reduceIte, t5]
    · simp -implicitDefEqProofs (disch := (first | omega | fail)) only [go_sem, seval, ↓reduceIte, t14]
  · have e' : (rs d == rs a) = false := by simpa using e
    simp only [e, if_false]
    simp -implicitDefEqProofs (disch := (first | omega | fail)) only [go_sem, seval, ↓reduceIte, ir28_r10_eq, ir28_s10, t2, t8, t10, t13, i0, i1, i2, i3, hx, hs, hrd, ↓b_neq, e']
    refine tail28 hx hc h4 ⟨s4, q4⟩ h5 ⟨s5, q5⟩ C.ne C.mem C.Ws ?_ ?_ ?_ ?_
    · simp -implicitDefEqProofs (disch := (first | omega | fail)) only [go_sem, seval, ↓reduceIte, t2]
    · simp -implicitDefEqProofs (disch := (first | omega | fail)) only [go_sem, seval, ↓reduceIte, t4]
    · simp -implicitDefEqProofs (disch := (first | omega | fail)) only [go_sem, seval, ↓reduceIte, t5]
    · simp -implicitDefEqProofs (disch := (first | omega | fail)) only [go_sem, seval, ↓reduceIte]
set_option maxHeartbeats 4000000 in
theorem rx_28 (C : RCtx tr g sp ip k4 k5 rm n1 N vB vr L Q q rs pc 28 d a b m W) : Goal28 h0 g tr rm n1 vB vr L rs pc W (execO q L rs pc 28 d a b m) := by
  unfold Goal28 execO
  obtain ⟨ci, i0, i1, i2, i3, i4⟩ := C.i
  obtain ⟨c, hx, hc⟩ := C.x
  obtain ⟨c4, h4, s4, q4⟩ := C.r4
  obtain ⟨c5, h5, s5, q5⟩ := C.r5
  have hs := hc.size; have hr := hc.ro; have hpc := hc.pc
  obtain ⟨e1, e2, e3⟩ := C.ne
  obtain ⟨w1, w2, w3⟩ := C.Ws
  have e1' := e1.symm; have e2' := e2.symm; have e3' := e3.symm
  have t1 := C.t1; have t2 := C.t2; have t4 := C.t4; have t5 := C.t5; have t8 := C.t8; have t10 := C.t10; have t11 := C.t11; have t12 := C.t12; have t13 := C.t13; have t14 := C.t14
  have hd := C.d16
  have hd17 : d < 17 := by omega
  have hrd := hc.reg d hd
  have him := i_im m
  have him2 := i_im2 m
  have l1 := Heap.lt_of_get hx; have l4 := Heap.lt_of_get h4; have l5 := Heap.lt_of_get h5
  have s38 : ∀ o, (g.set sp o).get k4 = some (.cells c4 28) := fun o => by rw [w_set_ne l1 e1']; exact h4
  have s39 : ∀ o, (g.set sp o).get k5 = some (.cells c5 38) := fun o => by rw [w_set_ne l1 e2']; exact h5
  by_cases e : rs d < rs a
  · simp only [e, if_true]
    simp -implicitDefEqProofs (disch := (first | omega | fail)) only [go_sem, seval, ↓reduceIte, ir28_r10_eq, ir28_s10, t2, t8, t10, t13, i0, i1, i2, i3, hx, hs, hrd, ↓b_lss, e]
    refine tail28 hx hc h4 ⟨s4, q4⟩ h5 ⟨s5, q5⟩ C.ne C.mem C.Ws ?_ ?_ ?_ ?_
    · simp -implicitDefEqProofs (disch := (first | omega | fail)) only [go_sem, seval, ↓reduceIte, t2]
    · simp -implicitDefEqProofs (disch := (first | omega | fail)) only [go_sem, seval, ↓reduceIte, t4]
    · simp -implicitDefEqProofs (disch := (first | omega | fail)) only [go_sem, seval, ↓reduceIte, t5]
    · simp -implicitDefEqProofs (disch := (first | omega | fail)) only [go_sem, seval, ↓reduceIte]
  · simp only [e, if_false]
    simp -implicitDefEqProofs (disch := (first | omega | fail)) only [go_sem, seval, ↓reduceIte, ir28_r10_eq, ir28_s10, t2, t8, t10, i0, i1, i2, i3, hx, hs, hrd, ↓b_lss, e]
    refine tail28 hx hc h4 ⟨s4, q4⟩ h5 ⟨s5, q5⟩ C.ne C.mem C.Ws ?_ ?_ ?_ ?_
    · simp -implicitDefEqProofs (disch := (first | omega | fail)) only [go_sem, seval, ↓reduceIte, t2]
    · simp -implicitDefEqProofs (disch := (first | omega | fail)) only [go_sem, seval, ↓reduceIte, t4]
    · simp -implicitDefEqProofs (disch := (first | omega | fail)) only [go_sem, seval, ↓reduceIte, t5]
    · simp -implicitDefEqProofs (disch := (first | omega | fail)) only [go_sem, seval, ↓reduceIte, t14]
set_option maxHeartbeats 4000000 in
theorem rx_8 (C : RCtx tr g sp ip k4 k5 rm n1 N vB vr L Q q rs pc 8 d a b m W) : Goal28 h0 g tr rm n1 vB vr L rs pc W (execO q L rs pc 8 d a b m) := by
  unfold Goal28 execO
  obtain ⟨ci, i0, i1, i2, i3, i4⟩ := C.i
  obtain ⟨c, hx, hc⟩ := C.x
  obtain ⟨c4, h4, s4, q4⟩ := C.r4
  obtain ⟨c5, h5, s5, q5⟩ := C.r5
  have hs := hc.size; have hr := hc.ro; have hpc := hc.pc
  obtain ⟨e1, e2, e3⟩ := C.ne
  obtain ⟨w1, w2, w3⟩ := C.Ws
  have e1' := e1.symm; have e2' := e2.symm; have e3' := e3.symm
  have t1 := C.t1; have t2 := C.t2; have t4 := C.t4; have t5 := C.t5; have t8 := C.t8; have t10 := C.t10; have t11 := C.t11; have t12 := C.t12; have t13 := C.t13; have t14 := C.t14
  have hd := C.d16
  have hd17 : d < 17 := by omega
  have hrd := hc.reg d hd
  have him := i_im m
  have him2 := i_im2 m
  have l1 := Heap.lt_of_get hx; have l4 := Heap.lt_of_get h4; have l5 := Heap.lt_of_get h5
  have s38 : ∀ o, (g.set sp o).get k4 = some (.cells c4 28) := fun o => by rw [w_set_ne l1 e1']; exact h4
  have s39 : ∀ o, (g.set sp o).get k5 = some (.cells c5 38) := fun o => by rw [w_set_ne l1 e2']; exact h5
  simp only [Nat.reduceEqDiff, if_false]
  simp -implicitDefEqProofs (disch := (first | omega | (simp -implicitDefEqProofs only [szs, ne_eq] <;> omega) | fail)) only [go_sem, seval, ↓reduceIte, ir28_r10_eq, ir28_s10, t8, t10, t11, i0, i1, i2]
  refine GCall.of (rmath_ok (R := fun _ => True) (W := W) (op := 8) (by omega) (rs a) (rs b)) ?_
  rintro r g1 ⟨rfl, hg1⟩
  rw [hg1]
  cases hal : alu 8 (rs a) (rs b) with
  | none =>
    have a0 := hc.reg 0 (by omega)
    have a1 := hc.reg 1 (by omega)
    have a2 := hc.reg 2 (by omega)
    have a3 := hc.reg 3 (by omega)
    have a4 := hc.reg 4 (by omega)
    have a5 := hc.reg 5 (by omega)
    have a6 := hc.reg 6 (by omega)
    have a7 := hc.reg 7 (by omega)
    have a8 := hc.reg 8 (by omega)
    have a9 := hc.reg 9 (by omega)
    have a10 := hc.reg 10 (by omega)
    have a11 := hc.reg 11 (by omega)
    have a12 := hc.reg 12 (by omega)
    have a13 := hc.reg 13 (by omega)
    have a14 := hc.reg 14 (by omega)
    have a15 := hc.reg 15 (by omega)
    simp -implicitDefEqProofs (disch := (first | omega | (simp -implicitDefEqProofs only [szs, ne_eq] <;> omega) | fail)) only [go_sem, seval, ↓reduceIte, undefV, t2, t4, t5, hx, hs, h4, s4, q4, h5, s5, q5, w2, w3, aluV, hpc, a0, a1, a2, a3, a4, a5, a6, a7, a8, a9, a10, a11, a12, a13, a14, a15]
    have hp : ∀ j, j < 17 → (c4.putA 0 [U (rs 0), U (rs 1), U (rs 2), U (rs 3), U (rs 4), U (rs 5), U (rs 6), U (rs 7), U (rs 8), U (rs 9), U (rs 10), U (rs 11), U (rs 12), U (rs 13), U (rs 14), U (rs 15), U pc]).get j = [U (rs 0), U (rs 1), U (rs 2), U (rs 3), U (rs 4), U (rs 5), U (rs 6), U (rs 7), U (rs 8), U (rs 9), U (rs 10), U (rs 11), U (rs 12), U (rs 13), U (rs 14), U (rs 15), U pc].getD j undefV := fun j hj => get_put17 s4 _ rfl j hj
    rw [hp 0 (by omega), hp 1 (by omega), hp 2 (by omega), hp 3 (by omega), hp 4 (by omega), hp 5 (by omega), hp 6 (by omega), hp 7 (by omega), hp 8 (by omega), hp 9 (by omega), hp 10 (by omega), hp 11 (by omega), hp 12 (by omega), hp 13 (by omega), hp 14 (by omega), hp 15 (by omega), hp 16 (by omega)]
    have y2 : ∀ o, (g.set k4 o).get k5 = some (.cells c5 38) := fun o => by rw [w_set_ne l4 e3']; exact h5
    exact ⟨rfl, C.mem.keep fun b d e n1 n2 n3 hb => set_e (y2 _) b d e n2 (set_e h4 b d e n1 hb)⟩
  | some v =>
    simp -implicitDefEqProofs (disch := (first | omega | (simp -implicitDefEqProofs only [szs, ne_eq] <;> omega) | fail)) only [go_sem, seval, ↓reduceIte, undefV, t2, t8, i0, i1, i3, hx, hs, hr, w1, aluV]
    refine tail28 (w_set_eq l1 rfl _) (hc.setR hd _) (s38 _) ⟨s4, q4⟩ (s39 _) ⟨s5, q5⟩ C.ne (C.mem.keep fun b d e n1 n2 n3 hb => set_e hx b d e n1 hb) C.Ws ?_ ?_ ?_ ?_
    · simp -implicitDefEqProofs (disch := (first | omega | (simp -implicitDefEqProofs only [szs, ne_eq] <;> omega) | fail)) only [go_sem, seval, ↓reduceIte, t2]
    · simp -implicitDefEqProofs (disch := (first | omega | (simp -implicitDefEqProofs only [szs, ne_eq] <;> omega) | fail)) only [go_sem, seval, ↓reduceIte, t4]
    · simp -implicitDefEqProofs (disch := (first | omega | (simp -implicitDefEqProofs only [szs, ne_eq] <;> omega) | fail)) only [go_sem, seval, ↓reduceIte, t5]
    · simp -implicitDefEqProofs (disch := (first | omega | (simp -implicitDefEqProofs only [szs, ne_eq] <;> omega) | fail)) only [go_sem, seval, ↓reduceIte, t14]
set_option maxHeartbeats 4000000 in
theorem rx_9 (C : RCtx tr g sp ip k4 k5 rm n1 N vB vr L Q q rs pc 9 d a b m W) : Goal28 h0 g tr rm n1 vB vr L rs pc W (execO q L rs pc 9 d a b m) := by
  unfold Goal28 execO
  obtain ⟨ci, i0, i1, i2, i3, i4⟩ := C.i
  obtain ⟨c, hx, hc⟩ := C.x
  obtain ⟨c4, h4, s4, q4⟩ := C.r4
  obtain ⟨c5, h5, s5, q5⟩ := C.r5
  have hs := hc.size; have hr := hc.ro; have hpc := hc.pc
  obtain ⟨e1, e2, e3⟩ := C.ne
  obtain ⟨w1, w2, w3⟩ := C.Ws
  have e1' := e1.symm; have e2' := e2.symm; have e3' := e3.symm
  have t1 := C.t1; have t2 := C.t2; have t4 := C.t4; have t5 := C.t5; have t8 := C.t8; have t10 := C.t10; have t11 := C.t11; have t12 := C.t12; have t13 := C.t13; have t14 := C.t14
  have hd := C.d16
  have hd17 : d < 17 := by omega
  have hrd := hc.reg d hd
  have him := i_im m
  have him2 := i_im2 m
  have l1 := Heap.lt_of_get hx; have l4 := Heap.lt_of_get h4; have l5 := Heap.lt_of_get h5
  have s38 : ∀ o, (g.set sp o).get k4 = some (.cells c4 28) := fun o => by rw [w_set_ne l1 e1']; exact h4
  have s39 : ∀ o, (g.set sp o).get k5 = some (.cells c5 38) := fun o => by rw [w_set_ne l1 e2']; exact h5
  simp only [Nat.reduceEqDiff, if_false]
  simp -implicitDefEqProofs (disch := (first | omega | (simp -implicitDefEqProofs only [szs, ne_eq] <;> omega) | fail)) only [go_sem, seval, ↓reduceIte, ir28_r10_eq, ir28_s10, t8, t10, t11, i0, i1, i2]
  refine GCall.of (rmath_ok (R := fun _ => True) (W := W) (op := 9) (by omega) (rs a) (rs b)) ?_
  rintro r g1 ⟨rfl, hg1⟩
  rw [hg1]
  cases hal : alu 9 (rs a) (rs b) with
  | none =>
    have a0 := hc.reg 0 (by omega)
    have a1 := hc.reg 1 (by omega)
    have a2 := hc.reg 2 (by omega)
    have a3 := hc.reg 3 (by omega)
    have a4 := hc.reg 4 (by omega)
    have a5 := hc.reg 5 (by omega)
    have a6 := hc.reg 6 (by omega)
    have a7 := hc.reg 7 (by omega)
    have a8 := hc.reg 8 (by omega)
    have a9 := hc.reg 9 (by omega)
    have a10 := hc.reg 10 (by omega)
    have a11 := hc.reg 11 (by omega)
    have a12 := hc.reg 12 (by omega)
    have a13 := hc.reg 13 (by omega)
    have a14 := hc.reg 14 (by omega)
    have a15 := hc.reg 15 (by omega)
    simp -implicitDefEqProofs (disch := (first | omega | (simp -implicitDefEqProofs only [szs, ne_eq] <;> omega) | fail)) only [go_sem, seval, ↓reduceIte, undefV, t2, t4, t5, hx, hs, h4, s4, q4, h5, s5, q5, w2, w3, aluV, hpc, a0, a1, a2, a3, a4, a5, a6, a7, a8, a9, a10, a11, a12, a13, a14, a15]
    have hp : ∀ j, j < 17 → (c4.putA 0 [U (rs 0), U (rs 1), U (rs 2), U (rs 3), U (rs 4), U (rs 5), U (rs 6), U (rs 7), U (rs 8), U (rs 9), U (rs 10), U (rs 11), U (rs 12), U (rs 13), U (rs 14), U (rs 15), U pc]).get j = [U (rs 0), U (rs 1), U (rs 2), U (rs 3), U (rs 4), U (rs 5), U (rs 6), U (rs 7), U (rs 8), U (rs 9), U (rs 10), U (rs 11), U (rs 12), U (rs 13), U (rs 14), U (rs 15), U pc].getD j undefV := fun j hj => get_put17 s4 _ rfl j hj
    rw [hp 0 (by omega), hp 1 (by omega), hp 2 (by omega), hp 3 (by omega), hp 4 (by omega), hp 5 (by omega), hp 6 (by omega), hp 7 (by omega), hp 8 (by omega), hp 9 (by omega), hp 10 (by omega), hp 11 (by omega), hp 12 (by omega), hp 13 (by omega), hp 14 (by omega), hp 15 (by omega), hp 16 (by omega)]
    have y2 : ∀ o, (g.set k4 o).get k5 = some (.cells c5 38) := fun o => by rw [w_set_ne l4 e3']; exact h5
    exact ⟨rfl, C.mem.keep fun b d e n1 n2 n3 hb => set_e (y2 _) b d e n2 (set_e h4 b d e n1 hb)⟩
  | some v =>
    simp -implicitDefEqProofs (disch := (first | omega | (simp -implicitDefEqProofs only [szs, ne_eq] <;> omega) | fail)) only [go_sem, seval, ↓reduceIte, undefV, t2, t8, i0, i1, i3, hx, hs, hr, w1, aluV]
    refine tail28 (w_set_eq l1 rfl _) (hc.setR hd _) (s38 _) ⟨s4, q4⟩ (s39 _) ⟨s5, q5⟩ C.ne (C.mem.keep fun b d e n1 n2 n3 hb => set_e hx b d e n1 hb) C.Ws ?_ ?_ ?_ ?_
    · simp -implicitDefEqProofs (disch := (first | omega | (simp -implicitDefEqProofs only [szs, ne_eq] <;> omega) | fail)) only [go_sem, seval, ↓reduceIte, t2]
    · simp -implicitDefEqProofs (disch := (first | omega | (simp -implicitDefEqProofs only [szs, ne_eq] <;> omega) | fail)) only [go_sem, seval, ↓reduceIte, t4]
    · simp -implicitDefEqProofs (disch := (first | omega | (simp -implicitDefEqProofs only [szs, ne_eq] <;> omega) | fail)) only [go_sem, seval, ↓reduceIte, t5]
    · simp -implicitDefEqProofs (disch := (first | omega | (simp -implicitDefEqProofs only [szs, ne_eq] <;> omega) | fail)) only [go_sem, seval, ↓reduceIte, t14]
set_option maxHeartbeats 4000000 in
theorem rx_10 (C : RCtx tr g sp ip k4 k5 rm n1 N vB vr L Q q rs pc 10 d a b m W) : Goal28 h0 g tr rm n1 vB vr L rs pc W (execO q L rs pc 10 d a b m) := by
  unfold Goal28 execO
  obtain ⟨ci, i0, i1, i2, i3, i4⟩ := C.i
  obtain ⟨c, hx, hc⟩ := C.x
  obtain ⟨c4, h4, s4, q4⟩ := C.r4
  obtain ⟨c5, h5, s5, q5⟩ := C.r5
  have hs := hc.size; have hr := hc.ro; have hpc := hc.pc
  obtain ⟨e1, e2, e3⟩ := C.ne
  obtain ⟨w1, w2, w3⟩ := C.Ws
  have e1' := e1.symm; have e2' := e2.symm; have e3' := e3.symm
  have t1 := C.t1; have t2 := C.t2; have t4 := C.t4; have t5 := C.t5; have t8 := C.t8; have t10 := C.t10; have t11 := C.t11; have t12 := C.t12; have t13 := C.t13; have t14 := C.t14
  have hd := C.d16
  have hd17 : d < 17 := by omega
  have hrd := hc.reg d hd
  have him := i_im m
  have him2 := i_im2 m
  have l1 := Heap.lt_of_get hx; have l4 := Heap.lt_of_get h4; have l5 := Heap.lt_of_get h5
  have s38 : ∀ o, (g.set sp o).get k4 = some (.cells c4 28) := fun o => by rw [w_set_ne l1 e1']; exact h4
  have s39 : ∀ o, (g.set sp o).get k5 = some (.cells c5 38) := fun o => by rw [w_set_ne l1 e2']; exact h5
  simp only [Nat.reduceEqDiff, if_false]
  simp -implicitDefEqProofs (disch := (first | omega | (simp -implicitDefEqProofs only [szs, ne_eq] <;> omega) | fail)) only [go_sem, seval, ↓reduceIte, ir28_r10_eq, ir28_s10, t8, t10, t11, i0, i1, i2]
  refine GCall.of (rmath_ok (R := fun _ => True) (W := W) (op := 10) (by omega) (rs a) (rs b)) ?_
  rintro r g1 ⟨rfl, hg1⟩
  rw [hg1]
  cases hal : alu 10 (rs a) (rs b) with
  | none =>
    have a0 := hc.reg 0 (by omega)
    have a1 := hc.reg 1 (by omega)
    have a2 := hc.reg 2 (by omega)
    have a3 := hc.reg 3 (by omega)
    have a4 := hc.reg 4 (by omega)
    have a5 := hc.reg 5 (by omega)
    have a6 := hc.reg 6 (by omega)
    have a7 := hc.reg 7 (by omega)
    have a8 := hc.reg 8 (by omega)
    have a9 := hc.reg 9 (by omega)
    have a10 := hc.reg 10 (by omega)
    have a11 := hc.reg 11 (by omega)
    have a12 := hc.reg 12 (by omega)
    have a13 := hc.reg 13 (by omega)
    have a14 := hc.reg 14 (by omega)
    have a15 := hc.reg 15 (by omega)
    simp -implicitDefEqProofs (disch := (first | omega | (simp -implicitDefEqProofs only [szs, ne_eq] <;> omega) | fail)) only [go_sem, seval, ↓reduceIte, undefV, t2, t4, t5, hx, hs, h4, s4, q4, h5, s5, q5, w2, w3, aluV, hpc, a0, a1, a2, a3, a4, a5, a6, a7, a8, a9, a10, a11, a12, a13, a14, a15]
    have hp : ∀ j, j < 17 → (c4.putA 0 [U (rs 0), U (rs 1), U (rs 2), U (rs 3), U (rs 4), U (rs 5), U (rs 6), U (rs 7), U (rs 8), U (rs 9), U (rs 10), U (rs 11), U (rs 12), U (rs 13), U (rs 14), U (rs 15), U pc]).get j = [U (rs 0), U (rs 1), U (rs 2), U (rs 3), U (rs 4), U (rs 5), U (rs 6), U (rs 7), U (rs 8), U (rs 9), U (rs 10), U (rs 11), U (rs 12), U (rs 13), U (rs 14), U (rs 15), U pc].getD j undefV := fun j hj => get_put17 s4 _ rfl j hj
    rw [hp 0 (by omega), hp 1 (by omega), hp 2 (by omega), hp 3 (by omega), hp 4 (by omega), hp 5 (by omega), hp 6 (by omega), hp 7 (by omega), hp 8 (by omega), hp 9 (by omega), hp 10 (by omega), hp 11 (by omega), hp 12 (by omega), hp 13 (by omega), hp 14 (by omega), hp 15 (by omega), hp 16 (by omega)]
    have y2 : ∀ o, (g.set k4 o).get k5 = some (.cells c5 38) := fun o => by rw [w_set_ne l4 e3']; exact h5
    exact ⟨rfl, C.mem.keep fun b d e n1 n2 n3 hb => set_e (y2 _) b d e n2 (set_e h4 b d e n1 hb)⟩
  | some v =>
    simp -implicitDefEqProofs (disch := (first | omega | (simp -implicitDefEqProofs only [szs, ne_eq] <;> omega) | fail)) only [go_sem, seval, ↓reduceIte, undefV, t2, t8, i0, i1, i3, hx, hs, hr, w1, aluV]
    refine tail28 (w_set_eq l1 rfl _) (hc.setR hd _) (s38 _) ⟨s4, q4⟩ (s39 _) ⟨s5, q5⟩ C.ne (C.mem.keep fun b d e n1 n2 n3 hb => set_e hx b d e n1 hb) C.Ws ?_ ?_ ?_ ?_
    · simp -implicitDefEqProofs (disch := (first | omega | (simp -implicitDefEqProofs only [szs, ne_eq] <;> omega) | fail)) only [go_sem, seval, ↓reduceIte, t2]
    · simp -implicitDefEqProofs (disch := (first | omega | (simp -implicitDefEqProofs only [szs, ne_eq] <;> omega) | fail)) only [go_sem, seval, ↓reduceIte, t4]
    · simp -implicitDefEqProofs (disch := (first | omega | (simp -implicitDefEqProofs only [szs, ne_eq] <;> omega) | fail)) only [go_sem, seval, ↓reduceIte, t5]
    · simp -implicitDefEqProofs (disch := (first | omega | (simp -implicitDefEqProofs only [szs, ne_eq] <;> omega) | fail)) only [go_sem, seval, ↓reduceIte, t14]
set_option maxHeartbeats 4000000 in
theorem rx_11 (C : RCtx tr g sp ip k4 k5 rm n1 N vB vr L Q q rs pc 11 d a b m W) : Goal28 h0 g tr rm n1 vB vr L rs pc W (execO q L rs pc 11 d a b m) := by
  unfold Goal28 execO
  obtain ⟨ci, i0, i1, i2, i3, i4⟩ := C.i
  obtain ⟨c, hx, hc⟩ := C.x
  obtain ⟨c4, h4, s4, q4⟩ := C.r4
  obtain ⟨c5, h5, s5, q5⟩ := C.r5
  have hs := hc.size; have hr := hc.ro; have hpc := hc.pc
  obtain ⟨e1, e2, e3⟩ := C.ne
  obtain ⟨w1, w2, w3⟩ := C.Ws
  have e1' := e1.symm; have e2' := e2.symm; have e3' := e3.symm
  have t1 := C.t1; have t2 := C.t2; have t4 := C.t4; have t5 := C.t5; have t8 := C.t8; have t10 := C.t10; have t11 := C.t11; have t12 := C.t12; have t13 := C.t13; have t14 := C.t14
  have hd := C.d16
  have hd17 : d < 17 := by omega
  have hrd := hc.reg d hd
  have him := i_im m
  have him2 := i_im2 m
  have l1 := Heap.lt_of_get hx; have l4 := Heap.lt_of_get h4; have l5 := Heap.lt_of_get h5
  have s38 : ∀ o, (g.set sp o).get k4 = some (.cells c4 28) := fun o => by rw [w_set_ne l1 e1']; exact h4
  have s39 : ∀ o, (g.set sp o).get k5 = some (.cells c5 38) := fun o => by rw [w_set_ne l1 e2']; exact h5
  simp only [Nat.reduceEqDiff, if_false]
  simp -implicitDefEqProofs (disch := (first | omega | (simp -implicitDefEqProofs only [szs, ne_eq] <;> omega) | fail)) only [go_sem, seval, ↓reduceIte, ir28_r10_eq, ir28_s10, t8, t10, t11, i0, i1, i2]
  refine GCall.of (rmath_ok (R := fun _ => True) (W := W) (op := 11) (by omega) (rs a) (rs b)) ?_
  rintro r g1 ⟨rfl, hg1⟩
  rw [hg1]
  cases hal : alu 11 (rs a) (rs b) with
  | none =>
    have a0 := hc.reg 0 (by omega)
    have a1 := hc.reg 1 (by omega)
    have a2 := hc.reg 2 (by omega)
    have a3 := hc.reg 3 (by omega)
    have a4 := hc.reg 4 (by omega)
    have a5 := hc.reg 5 (by omega)
    have a6 := hc.reg 6 (by omega)
    have a7 := hc.reg 7 (by omega)
    have a8 := hc.reg 8 (by omega)
    have a9 := hc.reg 9 (by omega)
    have a10 := hc.reg 10 (by omega)
    have a11 := hc.reg 11 (by omega)
    have a12 := hc.reg 12 (by omega)
    have a13 := hc.reg 13 (by omega)
    have a14 := hc.reg 14 (by omega)
    have a15 := hc.reg 15 (by omega)
    simp -implicitDefEqProofs (disch := (first | omega | (simp -implicitDefEqProofs only [szs, ne_eq] <;> omega) | fail)) only [go_sem, seval, ↓reduceIte, undefV, t2, t4, t5, hx, hs, h4, s4, q4, h5, s5, q5, w2, w3, aluV, hpc, a0, a1, a2, a3, a4, a5, a6, a7, a8, a9, a10, a11, a12, a13, a14, a15]
    have hp : ∀ j, j < 17 → (c4.putA 0 [U (rs 0), U (rs 1), U (rs 2), U (rs 3), U (rs 4), U (rs 5), U (rs 6), U (rs 7), U (rs 8), U (rs 9), U (rs 10), U (rs 11), U (rs 12), U (rs 13), U (rs 14), U (rs 15), U pc]).get j = [U (rs 0), U (rs 1), U (rs 2), U (rs 3), U (rs 4), U (rs 5), U (rs 6), U (rs 7), U (rs 8), U (rs 9), U (rs 10), U (rs 11), U (rs 12), U (rs 13), U (rs 14), U (rs 15), U pc].getD j undefV := fun j hj => get_put17 s4 _ rfl j hj
    rw [hp 0 (by omega), hp 1 (by omega), hp 2 (by omega), hp 3 (by omega), hp 4 (by omega), hp 5 (by omega), hp 6 (by omega), hp 7 (by omega), hp 8 (by omega), hp 9 (by omega), hp 10 (by omega), hp 11 (by omega), hp 12 (by omega), hp 13 (by omega), hp 14 (by omega), hp 15 (by omega), hp 16 (by omega)]
    have y2 : ∀ o, (g.set k4 o).get k5 = some (.cells c5 38) := fun o => by rw [w_set_ne l4 e3']; exact h5
    exact ⟨rfl, C.mem.keep fun b d e n1 n2 n3 hb => set_e (y2 _) b d e n2 (set_e h4 b d e n1 hb)⟩
  | some v =>
    simp -implicitDefEqProofs (disch := (first | omega | (simp -implicitDefEqProofs only [szs, ne_eq] <;> omega) | fail)) only [go_sem, seval, ↓reduceIte, undefV, t2, t8, i0, i1, i3, hx, hs, hr, w1, aluV]
    refine tail28 (w_set_eq l1 rfl _) (hc.setR hd _) (s38 _) ⟨s4, q4⟩ (s39 _) ⟨s5, q5⟩ C.ne (C.mem.keep fun b d e n1 n2 n3 hb => set_e hx b d e n1 hb) C.Ws ?_ ?_ ?_ ?_
    · simp -implicitDefEqProofs (disch := (first | omega | (simp -implicitDefEqProofs only [szs, ne_eq] <;> omega) | fail)) only [go_sem, seval, ↓reduceIte, t2]
    · simp -implicitDefEqProofs (disch := (first | omega | (simp -implicitDefEqProofs only [szs, ne_eq] <;> omega) | fail)) only [go_sem, seval, ↓reduceIte, t4]
    · simp -implicitDefEqProofs (disch := (first | omega | (simp -implicitDefEqProofs only [szs, ne_eq] <;> omega) | fail)) only [go_sem, seval, ↓reduceIte, t5]
    · simp -implicitDefEqProofs (disch := (first | omega | (simp -implicitDefEqProofs only [szs, ne_eq] <;> omega) | fail)) only [go_sem, seval, ↓reduceIte, t14]
set_option maxHeartbeats 4000000 in
theorem rx_12 (C : RCtx tr g sp ip k4 k5 rm n1 N vB vr L Q q rs pc 12 d a b m W) : Goal28 h0 g tr rm n1 vB vr L rs pc W (execO q L rs pc 12 d a b m) := by
  unfold Goal28 execO
  obtain ⟨ci, i0, i1, i2, i3, i4⟩ := C.i
  obtain ⟨c, hx, hc⟩ := C.x
  obtain ⟨c4, h4, s4, q4⟩ := C.r4
  obtain ⟨c5, h5, s5, q5⟩ := C.r5
  have hs := hc.size; have hr := hc.ro; have hpc := hc.pc
  obtain ⟨e1, e2, e3⟩ := C.ne
  obtain ⟨w1, w2, w3⟩ := C.Ws
  have e1' := e1.symm; have e2' := e2.symm; have e3' := e3.symm
  have t1 := C.t1; have t2 := C.t2; have t4 := C.t4; have t5 := C.t5; have t8 := C.t8; have t10 := C.t10; have t11 := C.t11; have t12 := C.t12; have t13 := C.t13; have t14 := C.t14
  have hd := C.d16
  have hd17 : d < 17 := by omega
  have hrd := hc.reg d hd
  have him := i_im m
  have him2 := i_im2 m
  have l1 := Heap.lt_of_get hx; have l4 := Heap.lt_of_get h4; have l5 := Heap.lt_of_get h5
  have s38 : ∀ o, (g.set sp o).get k4 = some (.cells c4 28) := fun o => by rw [w_set_ne l1 e1']; exact h4
  have s39 : ∀ o, (g.set sp o).get k5 = some (.cells c5 38) := fun o => by rw [w_set_ne l1 e2']; exact h5
  simp only [Nat.reduceEqDiff, if_false]
  simp -implicitDefEqProofs (disch := (first | omega | (simp -implicitDefEqProofs only [szs, ne_eq] <;> omega) | fail)) only [go_sem, seval, ↓reduceIte, ir28_r10_eq, ir28_s10, t8, t10, t11, i0, i1, i2]
  refine GCall.of (rmath_ok (R := fun _ => True) (W := W) (op := 12) (by omega) (rs a) (rs b)) ?_
  rintro r g1 ⟨rfl, hg1⟩
  rw [hg1]
  cases hal : alu 12 (rs a) (rs b) with
  | none =>
    have a0 := hc.reg 0 (by omega)
    have a1 := hc.reg 1 (by omega)
    have a2 := hc.reg 2 (by omega)
    have a3 := hc.reg 3 (by omega)
    have a4 := hc.reg 4 (by omega)
    have a5 := hc.reg 5 (by omega)
    have a6 := hc.reg 6 (by omega)
    have a7 := hc.reg 7 (by omega)
    have a8 := hc.reg 8 (by omega)
    have a9 := hc.reg 9 (by omega)
    have a10 := hc.reg 10 (by omega)
    have a11 := hc.reg 11 (by omega)
    have a12 := hc.reg 12 (by omega)
    have a13 := hc.reg 13 (by omega)
    have a14 := hc.reg 14 (by omega)
    have a15 := hc.reg 15 (by omega)
    simp -implicitDefEqProofs (disch := (first | omega | (simp -implicitDefEqProofs only [szs, ne_eq] <;> omega) | fail)) only [go_sem, seval, ↓reduceIte, undefV, t2, t4, t5, hx, hs, h4, s4, q4, h5, s5, q5, w2, w3, aluV, hpc, a0, a1, a2, a3, a4, a5, a6, a7, a8, a9, a10, a11, a12, a13, a14, a15]
    have hp : ∀ j, j < 17 → (c4.putA 0 [U (rs 0), U (rs 1), U (rs 2), U (rs 3), U (rs 4), U (rs 5), U (rs 6), U (rs 7), U (rs 8), U (rs 9), U (rs 10), U (rs 11), U (rs 12), U (rs 13), U (rs 14), U (rs 15), U pc]).get j = [U (rs 0), U (rs 1), U (rs 2), U (rs 3), U (rs 4), U (rs 5), U (rs 6), U (rs 7), U (rs 8), U (rs 9), U (rs 10), U (rs 11), U (rs 12), U (rs 13), U (rs 14), U (rs 15), U pc].getD j undefV := fun j hj => get_put17 s4 _ rfl j hj
    rw [hp 0 (by omega), hp 1 (by omega), hp 2 (by omega), hp 3 (by omega), hp 4 (by omega), hp 5 (by omega), hp 6 (by omega), hp 7 (by omega), hp 8 (by omega), hp 9 (by omega), hp 10 (by omega), hp 11 (by omega), hp 12 (by omega), hp 13 (by omega), hp 14 (by omega), hp 15 (by omega), hp 16 (by omega)]
    have y2 : ∀ o, (g.set k4 o).get k5 = some (.cells c5 38) := fun o => by rw [w_set_ne l4 e3']; exact h5
    exact ⟨rfl, C.mem.keep fun b d e n1 n2 n3 hb => set_e (y2 _) b d e n2 (set_e h4 b d e n1 hb)⟩
  | some v =>
    simp -implicitDefEqProofs (disch := (first | omega | (simp -implicitDefEqProofs only [szs, ne_eq] <;> omega) | fail)) only [go_sem, seval, ↓reduceIte, undefV, t2, t8, i0, i1, i3, hx, hs, hr, w1, aluV]
    refine tail28 (w_set_eq l1 rfl _) (hc.setR hd _) (s38 _) ⟨s4, q4⟩ (s39 _) ⟨s5, q5⟩ C.ne (C.mem.keep fun b d e n1 n2 n3 hb => set_e hx b d e n1 hb) C.Ws ?_ ?_ ?_ ?_
    · simp -implicitDefEqProofs (disch := (first | omega | (simp -implicitDefEqProofs only [szs, ne_eq] <;> omega) | fail)) only [go_sem, seval, ↓reduceIte, t2]
    · simp -implicitDefEqProofs (disch := (first | omega | (simp -implicitDefEqProofs only [szs, ne_eq] <;> omega) | fail)) only [go_sem, seval, ↓reduceIte, t4]
    · simp -implicitDefEqProofs (disch := (first | omega | (simp -implicitDefEqProofs only [szs, ne_eq] <;> omega) | fail)) only [go_sem, seval, ↓reduceIte, t5]
    · simp -implicitDefEqProofs (disch := (first | omega | (simp -implicitDefEqProofs only [szs, ne_eq] <;> omega) | fail)) only [go_sem, seval, ↓reduceIte, t14]
set_option maxHeartbeats 4000000 in
theorem rx_13 (C : RCtx tr g sp ip k4 k5 rm n1 N vB vr L Q q rs pc 13 d a b m W) : Goal28 h0 g tr rm n1 vB vr L rs pc W (execO q L rs pc 13 d a b m) := by
  unfold Goal28 execO
  obtain ⟨ci, i0, i1, i2, i3, i4⟩ := C.i
  obtain ⟨c, hx, hc⟩ := C.x
  obtain ⟨c4, h4, s4, q4⟩ := C.r4
  obtain ⟨c5, h5, s5, q5⟩ := C.r5
  have hs := hc.size; have hr := hc.ro; have hpc := hc.pc
  obtain ⟨e1, e2, e3⟩ := C.ne
  obtain ⟨w1, w2, w3⟩ := C.Ws
  have e1' := e1.symm; have e2' := e2.symm; have e3' := e3.symm
  have t1 := C.t1; have t2 := C.t2; have t4 := C.t4; have t5 := C.t5; have t8 := C.t8; have t10 := C.t10; have t11 := C.t11; have t12 := C.t12; have t13 := C.t13; have t14 := C.t14
  have hd := C.d16
  have hd17 : d < 17 := by omega
  have hrd := hc.reg d hd
  have him := i_im m
  have him2 := i_im2 m
  have l1 := Heap.lt_of_get hx; have l4 := Heap.lt_of_get h4; have l5 := Heap.lt_of_get h5
  have s38 : ∀ o, (g.set sp o).get k4 = some (.cells c4 28) := fun o => by rw [w_set_ne l1 e1']; exact h4
  have s39 : ∀ o, (g.set sp o).get k5 = some (.cells c5 38) := fun o => by rw [w_set_ne l1 e2']; exact h5
  simp only [Nat.reduceEqDiff, if_false]
  simp -implicitDefEqProofs (disch := (first | omega | (simp -implicitDefEqProofs only [szs, ne_eq] <;> omega) | fail)) only [go_sem, seval, ↓reduceIte, ir28_r10_eq, ir28_s10, t8, t10, t11, i0, i1, i2]
  refine GCall.of (rmath_ok (R := fun _ => True) (W := W) (op := 13) (by omega) (rs a) (rs b)) ?_
  rintro r g1 ⟨rfl, hg1⟩
  rw [hg1]
  cases hal : alu 13 (rs a) (rs b) with
  | none =>
    have a0 := hc.reg 0 (by omega)
    have a1 := hc.reg 1 (by omega)
    have a2 := hc.reg 2 (by omega)
    have a3 := hc.reg 3 (by omega)
    have a4 := hc.reg 4 (by omega)
    have a5 := hc.reg 5 (by omega)
    have a6 := hc.reg 6 (by omega)
    have a7 := hc.reg 7 (by omega)
    have a8 := hc.reg 8 (by omega)
    have a9 := hc.reg 9 (by omega)
    have a10 := hc.reg 10 (by omega)
    have a11 := hc.reg 11 (by omega)
    have a12 := hc.reg 12 (by omega)
    have a13 := hc.reg 13 (by omega)
    have a14 := hc.reg 14 (by omega)
    have a15 := hc.reg 15 (by omega)
    simp -implicitDefEqProofs (disch := (first | omega | (simp -implicitDefEqProofs only [szs, ne_eq] <;> omega) | fail)) only [go_sem, seval, ↓reduceIte, undefV, t2, t4, t5, hx, hs, h4, s4, q4, h5, s5, q5, w2, w3, aluV, hpc, a0, a1, a2, a3, a4, a5, a6, a7, a8, a9, a10, a11, a12, a13, a14, a15]
    have hp : ∀ j, j < 17 → (c4.putA 0 [U (rs 0), U (rs 1), U (rs 2), U (rs 3), U (rs 4), U (rs 5), U (rs 6), U (rs 7), U (rs 8), U (rs 9), U (rs 10), U (rs 11), U (rs 12), U (rs 13), U (rs 14), U (rs 15), U pc]).get j = [U (rs 0), U (rs 1), U (rs 2), U (rs 3), U (rs 4), U (rs 5), U (rs 6), U (rs 7), U (rs 8), U (rs 9), U (rs 10), U (rs 11), U (rs 12), U (rs 13), U (rs 14), U (rs 15), U pc].getD j undefV := fun j hj => get_put17 s4 _ rfl j hj
    rw [hp 0 (by omega), hp 1 (by omega), hp 2 (by omega), hp 3 (by omega), hp 4 (by omega), hp 5 (by omega), hp 6 (by omega), hp 7 (by omega), hp 8 (by omega), hp 9 (by omega), hp 10 (by omega), hp 11 (by omega), hp 12 (by omega), hp 13 (by omega), hp 14 (by omega), hp 15 (by omega), hp 16 (by omega)]
    have y2 : ∀ o, (g.set k4 o).get k5 = some (.cells c5 38) := fun o => by rw [w_set_ne l4 e3']; exact h5
    exact ⟨rfl, C.mem.keep fun b d e n1 n2 n3 hb => set_e (y2 _) b d e n2 (set_e h4 b d e n1 hb)⟩
  | some v =>
    simp -implicitDefEqProofs (disch := (first | omega | (simp -implicitDefEqProofs only [szs, ne_eq] <;> omega) | fail)) only [go_sem, seval, ↓reduceIte, undefV, t2, t8, i0, i1, i3, hx, hs, hr, w1, aluV]
    refine tail28 (w_set_eq l1 rfl _) (hc.setR hd _) (s38 _) ⟨s4, q4⟩ (s39 _) ⟨s5, q5⟩ C.ne (C.mem.keep fun b d e n1 n2 n3 hb => set_e hx b d e n1 hb) C.Ws ?_ ?_ ?_ ?_
    · simp -implicitDefEqProofs (disch := (first | omega | (simp -implicitDefEqProofs only [szs, ne_eq] <;> omega) | fail)) only [go_sem, seval, ↓reduceIte, t2]
    · simp -implicitDefEqProofs (disch := (first | omega | (simp -implicitDefEqProofs only [szs, ne_eq] <;> omega) | fail)) only [go_sem, seval, ↓reduceIte, t4]
    · simp -implicitDefEqProofs (disch := (first | omega | (simp -implicitDefEqProofs only [szs, ne_eq] <;> omega) | fail)) only [go_sem, seval, ↓reduceIte, t5]
    · simp -implicitDefEqProofs (disch := (first | omega | (simp -implicitDefEqProofs only [szs, ne_eq] <;> omega) | fail)) only [go_sem, seval, ↓reduceIte, t14]
set_option maxHeartbeats 4000000 in
theorem rx_14 (C : RCtx tr g sp ip k4 k5 rm n1 N vB vr L Q q rs pc 14 d a b m W) : Goal28 h0 g tr rm n1 vB vr L rs pc W (execO q L rs pc 14 d a b m) := by
  unfold Goal28 execO
  obtain ⟨ci, i0, i1, i2, i3, i4⟩ := C.i
  obtain ⟨c, hx, hc⟩ := C.x
  obtain ⟨c4, h4, s4, q4⟩ := C.r4
  obtain ⟨c5, h5, s5, q5⟩ := C.r5
  have hs := hc.size; have hr := hc.ro; have hpc := hc.pc
  obtain ⟨e1, e2, e3⟩ := C.ne
  obtain ⟨w1, w2, w3⟩ := C.Ws
  have e1' := e1.symm; have e2' := e2.symm; have e3' := e3.symm
  have t1 := C.t1; have t2 := C.t2; have t4 := C.t4; have t5 := C.t5; have t8 := C.t8; have t10 := C.t10; have t11 := C.t11; have t12 := C.t12; have t13 := C.t13; have t14 := C.t14
  have hd := C.d16
  have hd17 : d < 17 := by omega
  have hrd := hc.reg d hd
  have him := i_im m
  have him2 := i_im2 m
  have l1 := Heap.lt_of_get hx; have l4 := Heap.lt_of_get h4; have l5 := Heap.lt_of_get h5
  have s38 : ∀ o, (g.set sp o).get k4 = some (.cells c4 28) := fun o => by rw [w_set_ne l1 e1']; exact h4
  have s39 : ∀ o, (g.set sp o).get k5 = some (.cells c5 38) := fun o => by rw [w_set_ne l1 e2']; exact h5
  simp only [Nat.reduceEqDiff, if_false]
  simp -implicitDefEqProofs (disch := (first | omega | (simp -implicitDefEqProofs only [szs, ne_eq] <;> omega) | fail)) only [go_sem, seval, ↓reduceIte, ir28_r10_eq, ir28_s10, t8, t10, t11, i0, i1, i2]
  refine GCall.of (rmath_ok (R := fun _ => True) (W := W) (op := 14) (by omega) (rs a) (rs b)) ?_
  rintro r g1 ⟨rfl, hg1⟩
  rw [hg1]
  cases hal : alu 14 (rs a) (rs b) with
  | none =>
    have a0 := hc.reg 0 (by omega)
    have a1 := hc.reg 1 (by omega)
    have a2 := hc.reg 2 (by omega)
    have a3 := hc.reg 3 (by omega)
    have a4 := hc.reg 4 (by omega)
    have a5 := hc.reg 5 (by omega)
    have a6 := hc.reg 6 (by omega)
    have a7 := hc.reg 7 (by omega)
    have a8 := hc.reg 8 (by omega)
    have a9 := hc.reg 9 (by omega)
    have a10 := hc.reg 10 (by omega)
    have a11 := hc.reg 11 (by omega)
    have a12 := hc.reg 12 (by omega)
    have a13 := hc.reg 13 (by omega)
    have a14 := hc.reg 14 (by omega)
    have a15 := hc.reg 15 (by omega)
    simp -implicitDefEqProofs (disch := (first | omega | (simp -implicitDefEqProofs only [szs, ne_eq] <;> omega) | fail)) only [go_sem, seval, ↓reduceIte, undefV, t2, t4, t5, hx, hs, h4, s4, q4, h5, s5, q5, w2, w3, aluV, hpc, a0, a1, a2, a3, a4, a5, a6, a7, a8, a9, a10, a11, a12, a13, a14, a15]
    have hp : ∀ j, j < 17 → (c4.putA 0 [U (rs 0), U (rs 1), U (rs 2), U (rs 3), U (rs 4), U (rs 5), U (rs 6), U (rs 7), U (rs 8), U (rs 9), U (rs 10), U (rs 11), U (rs 12), U (rs 13), U (rs 14), U (rs 15), U pc]).get j = [U (rs 0), U (rs 1), U (rs 2), U (rs 3), U (rs 4), U (rs 5), U (rs 6), U (rs 7), U (rs 8), U (rs 9), U (rs 10), U (rs 11), U (rs 12), U (rs 13), U (rs 14), U (rs 15), U pc].getD j undefV := fun j hj => get_put17 s4 _ rfl j hj
    rw [hp 0 (by omega), hp 1 (by omega), hp 2 (by omega), hp 3 (by omega), hp 4 (by omega), hp 5 (by omega), hp 6 (by omega), hp 7 (by omega), hp 8 (by omega), hp 9 (by omega), hp 10 (by omega), hp 11 (by omega), hp 12 (by omega), hp 13 (by omega), hp 14 (by omega), hp 15 (by omega), hp 16 (by omega)]
    have y2 : ∀ o, (g.set k4 o).get k5 = some (.cells c5 38) := fun o => by rw [w_set_ne l4 e3']; exact h5
    exact ⟨rfl, C.mem.keep fun b d e n1 n2 n3 hb => set_e (y2 _) b d e n2 (set_e h4 b d e n1 hb)⟩
  | some v =>
    simp -implicitDefEqProofs (disch := (first | omega | (simp -implicitDefEqProofs only [szs, ne_eq] <;> omega) | fail)) only [go_sem, seval, ↓reduceIte, undefV, t2, t8, i0, i1, i3, hx, hs, hr, w1, aluV]
    refine tail28 (w_set_eq l1 rfl _) (hc.setR hd _) (s38 _) ⟨s4, q4⟩ (s39 _) ⟨s5, q5⟩ C.ne (C.mem.keep fun b d e n1 n2 n3 hb => set_e hx b d e n1 hb) C.Ws ?_ ?_ ?_ ?_
    · simp -implicitDefEqProofs (disch := (first | omega | (simp -implicitDefEqProofs only [szs, ne_eq] <;> omega) | fail)) only [go_sem, seval, ↓reduceIte, t2]
    · simp -implicitDefEqProofs (disch := (first | omega | (simp -implicitDefEqProofs only [szs, ne_eq] <;> omega) | fail)) only [go_sem, seval, ↓reduceIte, t4]
    · simp -implicitDefEqProofs (disch := (first | omega | (simp -implicitDefEqProofs only [szs, ne_eq] <;> omega) | fail)) only [go_sem, seval, ↓reduceIte, t5]
    · simp -implicitDefEqProofs (disch := (first | omega | (simp -implicitDefEqProofs only [szs, ne_eq] <;> omega) | fail)) only [go_sem, seval, ↓reduceIte, t14]
set_option maxHeartbeats 4000000 in
theorem rx_15 (C : RCtx tr g sp ip k4 k5 rm n1 N vB vr L Q q rs pc 15 d a b m W) : Goal28 h0 g tr rm n1 vB vr L rs pc W (execO q L rs pc 15 d a b m) := by
  unfold Goal28 execO
  obtain ⟨ci, i0, i1, i2, i3, i4⟩ := C.i
  obtain ⟨c, hx, hc⟩ := C.x
  obtain ⟨c4, h4, s4, q4⟩ := C.r4
  obtain ⟨c5, h5, s5, q5⟩ := C.r5
  have hs := hc.size; have hr := hc.ro; have hpc := hc.pc
  obtain ⟨e1, e2, e3⟩ := C.ne
  obtain ⟨w1, w2, w3⟩ := C.Ws
  have e1' := e1.symm; have e2' := e2.symm; have e3' := e3.symm
  have t1 := C.t1; have t2 := C.t2; have t4 := C.t4; have t5 := C.t5; have t8 := C.t8; have t10 := C.t10; have t11 := C.t11; have t12 := C.t12; have t13 := C.t13; have t14 := C.t14
  have hd := C.d16
  have hd17 : d < 17 := by omega
  have hrd := hc.reg d hd
  have him := i_im m
  have him2 := i_im2 m
  have l1 := Heap.lt_of_get hx; have l4 := Heap.lt_of_get h4; have l5 := Heap.lt_of_get h5
  have s38 : ∀ o, (g.set sp o).get k4 = some (.cells c4 28) := fun o => by rw [w_set_ne l1 e1']; exact h4
  have s39 : ∀ o, (g.set sp o).get k5 = some (.cells c5 38) := fun o => by rw [w_set_ne l1 e2']; exact h5
  simp only [Nat.reduceEqDiff, if_false]
  simp -implicitDefEqProofs (disch := (first | omega | (simp -implicitDefEqProofs only [szs, ne_eq] <;> omega) | fail)) only [go_sem, seval, ↓reduceIte, ir28_r10_eq, ir28_s10, t8, t10, t11, i0, i1, i2]
  refine GCall.of (rmath_ok (R := fun _ => True) (W := W) (op := 15) (by omega) (rs a) (rs b)) ?_
  rintro r g1 ⟨rfl, hg1⟩
  rw [hg1]
  cases hal : alu 15 (rs a) (rs b) with
  | none =>
    have a0 := hc.reg 0 (by omega)
    have a1 := hc.reg 1 (by omega)
    have a2 := hc.reg 2 (by omega)
    have a3 := hc.reg 3 (by omega)
    have a4 := hc.reg 4 (by omega)
    have a5 := hc.reg 5 (by omega)
    have a6 := hc.reg 6 (by omega)
    have a7 := hc.reg 7 (by omega)
    have a8 := hc.reg 8 (by omega)
    have a9 := hc.reg 9 (by omega)
    have a10 := hc.reg 10 (by omega)
    have a11 := hc.reg 11 (by omega)
    have a12 := hc.reg 12 (by omega)
    have a13 := hc.reg 13 (by omega)
    have a14 := hc.reg 14 (by omega)
    have a15 := hc.reg 15 (by omega)
    simp -implicitDefEqProofs (disch := (first | omega | (simp -implicitDefEqProofs only [szs, ne_eq] <;> omega) | fail)) only [go_sem, seval, ↓reduceIte, undefV, t2, t4, t5, hx, hs, h4, s4, q4, h5, s5, q5, w2, w3, aluV, hpc, a0, a1, a2, a3, a4, a5, a6, a7, a8, a9, a10, a11, a12, a13, a14, a15]
    have hp : ∀ j, j < 17 → (c4.putA 0 [U (rs 0), U (rs 1), U (rs 2), U (rs 3), U (rs 4), U (rs 5), U (rs 6), U (rs 7), U (rs 8), U (rs 9), U (rs 10), U (rs 11), U (rs 12), U (rs 13), U (rs 14), U (rs 15), U pc]).get j = [U (rs 0), U (rs 1), U (rs 2), U (rs 3), U (rs 4), U (rs 5), U (rs 6), U (rs 7), U (rs 8), U (rs 9), U (rs 10), U (rs 11), U (rs 12), U (rs 13), U (rs 14), U (rs 15), U pc].getD j undefV := fun j hj => get_put17 s4 _ rfl j hj
    rw [hp 0 (by omega), hp 1 (by omega), hp 2 (by omega), hp 3 (by omega), hp 4 (by omega), hp 5 (by omega), hp 6 (by omega), hp 7 (by omega), hp 8 (by omega), hp 9 (by omega), hp 10 (by omega), hp 11 (by omega), hp 12 (by omega), hp 13 (by omega), hp 14 (by omega), hp 15 (by omega), hp 16 (by omega)]
    have y2 : ∀ o, (g.set k4 o).get k5 = some (.cells c5 38) := fun o => by rw [w_set_ne l4 e3']; exact h5
    exact ⟨rfl, C.mem.keep fun b d e n1 n2 n3 hb => set_e (y2 _) b d e n2 (set_e h4 b d e n1 hb)⟩
  | some v =>
    simp -implicitDefEqProofs (disch := (first | omega | (simp -implicitDefEqProofs only [szs, ne_eq] <;> omega) | fail)) only [go_sem, seval, ↓reduceIte, undefV, t2, t8, i0, i1, i3, hx, hs, hr, w1, aluV]
    refine tail28 (w_set_eq l1 rfl _) (hc.setR hd _) (s38 _) ⟨s4, q4⟩ (s39 _) ⟨s5, q5⟩ C.ne (C.mem.keep fun b d e n1 n2 n3 hb => set_e hx b d e n1 hb) C.Ws ?_ ?_ ?_ ?_
    · simp -implicitDefEqProofs (disch := (first | omega | (simp -implicitDefEqProofs only [szs, ne_eq] <;> omega) | fail)) only [go_sem, seval, ↓reduceIte, t2]
    · simp -implicitDefEqProofs (disch := (first | omega | (simp -implicitDefEqProofs only [szs, ne_eq] <;> omega) | fail)) only [go_sem, seval, ↓reduceIte, t4]
    · simp -implicitDefEqProofs (disch := (first | omega | (simp -implicitDefEqProofs only [szs, ne_eq] <;> omega) | fail)) only [go_sem, seval, ↓reduceIte, t5]
    · simp -implicitDefEqProofs (disch := (first | omega | (simp -implicitDefEqProofs only [szs, ne_eq] <;> omega) | fail)) only [go_sem, seval, ↓reduceIte, t14]
set_option maxHeartbeats 4000000 in
theorem rx_16 (C : RCtx tr g sp ip k4 k5 rm n1 N vB vr L Q q rs pc 16 d a b m W) : Goal28 h0 g tr rm n1 vB vr L rs pc W (execO q L rs pc 16 d a b m) := by
  unfold Goal28 execO
  obtain ⟨ci, i0, i1, i2, i3, i4⟩ := C.i
  obtain ⟨c, hx, hc⟩ := C.x
  obtain ⟨c4, h4, s4, q4⟩ := C.r4
  obtain ⟨c5, h5, s5, q5⟩ := C.r5
  have hs := hc.size; have hr := hc.ro; have hpc := hc.pc
  obtain ⟨e1, e2, e3⟩ := C.ne
  obtain ⟨w1, w2, w3⟩ := C.Ws
  have e1' := e1.symm; have e2' := e2.symm; have e3' := e3.symm
  have t1 := C.t1; have t2 := C.t2; have t4 := C.t4; have t5 := C.t5; have t8 := C.t8; have t10 := C.t10; have t11 := C.t11; have t12 := C.t12; have t13 := C.t13; have t14 := C.t14
  have hd := C.d16
  have hd17 : d < 17 := by omega
  have hrd := hc.reg d hd
  have him := i_im m
  have him2 := i_im2 m
  have l1 := Heap.lt_of_get hx; have l4 := Heap.lt_of_get h4; have l5 := Heap.lt_of_get h5
  have s38 : ∀ o, (g.set sp o).get k4 = some (.cells c4 28) := fun o => by rw [w_set_ne l1 e1']; exact h4
  have s39 : ∀ o, (g.set sp o).get k5 = some (.cells c5 38) := fun o => by rw [w_set_ne l1 e2']; exact h5
  simp only [Nat.reduceEqDiff, if_false]
  simp -implicitDefEqProofs (disch := (first | omega | (simp -implicitDefEqProofs only [szs, ne_eq] <;> omega) | fail)) only [go_sem, seval, ↓reduceIte, ir28_r10_eq, ir28_s10, t8, t10, t11, i0, i1, i2]
  refine GCall.of (rmath_ok (R := fun _ => True) (W := W) (op := 16) (by omega) (rs a) (rs b)) ?_
  rintro r g1 ⟨rfl, hg1⟩
  rw [hg1]
  cases hal : alu 16 (rs a) (rs b) with
  | none =>
    have a0 := hc.reg 0 (by omega)
    have a1 := hc.reg 1 (by omega)
    have a2 := hc.reg 2 (by omega)
    have a3 := hc.reg 3 (by omega)
    have a4 := hc.reg 4 (by omega)
    have a5 := hc.reg 5 (by omega)
    have a6 := hc.reg 6 (by omega)
    have a7 := hc.reg 7 (by omega)
    have a8 := hc.reg 8 (by omega)
    have a9 := hc.reg 9 (by omega)
    have a10 := hc.reg 10 (by omega)
    have a11 := hc.reg 11 (by omega)
    have a12 := hc.reg 12 (by omega)
    have a13 := hc.reg 13 (by omega)
    have a14 := hc.reg 14 (by omega)
    have a15 := hc.reg 15 (by omega)
    simp -implicitDefEqProofs (disch := (first | omega | (simp -implicitDefEqProofs only [szs, ne_eq] <;> omega) | fail)) only [go_sem, seval, ↓reduceIte, undefV, t2, t4, t5, hx, hs, h4, s4, q4, h5, s5, q5, w2, w3, aluV, hpc, a0, a1, a2, a3, a4, a5, a6, a7, a8, a9, a10, a11, a12, a13, a14, a15]
    have hp : ∀ j, j < 17 → (c4.putA 0 [U (rs 0), U (rs 1), U (rs 2), U (rs 3), U (rs 4), U (rs 5), U (rs 6), U (rs 7), U (rs 8), U (rs 9), U (rs 10), U (rs 11), U (rs 12), U (rs 13), U (rs 14), U (rs 15), U pc]).get j = [U (rs 0), U (rs 1), U (rs 2), U (rs 3), U (rs 4), U (rs 5), U (rs 6), U (rs 7), U (rs 8), U (rs 9), U (rs 10), U (rs 11), U (rs 12), U (rs 13), U (rs 14), U (rs 15), U pc].getD j undefV := fun j hj => get_put17 s4 _ rfl j hj
    rw [hp 0 (by omega), hp 1 (by omega), hp 2 (by omega), hp 3 (by omega), hp 4 (by omega), hp 5 (by omega), hp 6 (by omega), hp 7 (by omega), hp 8 (by omega), hp 9 (by omega), hp 10 (by omega), hp 11 (by omega), hp 12 (by omega), hp 13 (by omega), hp 14 (by omega), hp 15 (by omega), hp 16 (by omega)]
    have y2 : ∀ o, (g.set k4 o).get k5 = some (.cells c5 38) := fun o => by rw [w_set_ne l4 e3']; exact h5
    exact ⟨rfl, C.mem.keep fun b d e n1 n2 n3 hb => set_e (y2 _) b d e n2 (set_e h4 b d e n1 hb)⟩
  | some v =>
    simp -implicitDefEqProofs (disch := (first | omega | (simp -implicitDefEqProofs only [szs, ne_eq] <;> omega) | fail)) only [go_sem, seval, ↓reduceIte, undefV, t2, t8, i0, i1, i3, hx, hs, hr, w1, aluV]
    refine tail28 (w_set_eq l1 rfl _) (hc.setR hd _) (s38 _) ⟨s4, q4⟩ (s39 _) ⟨s5, q5⟩ C.ne (C.mem.keep fun b d e n1 n2 n3 hb => set_e hx b d e n1 hb) C.Ws ?_ ?_ ?_ ?_
    · simp -implicitDefEqProofs (disch := (first | omega | (simp -implicitDefEqProofs only [szs, ne_eq] <;> omega) | fail)) only [go_sem, seval, ↓reduceIte, t2]
    · simp -implicitDefEqProofs (disch := (first | omega | (simp -implicitDefEqProofs only [szs, ne_eq] <;> omega) | fail)) only [go_sem, seval, ↓reduceIte, t4]
    · simp -implicitDefEqProofs (disch := (first | omega | (simp -implicitDefEqProofs only [szs, ne_eq] <;> omega) | fail)) only [go_sem, seval, ↓reduceIte, t5]
    · simp -implicitDefEqProofs (disch := (first | omega | (simp -implicitDefEqProofs only [szs, ne_eq] <;> omega) | fail)) only [go_sem, seval, ↓reduceIte, t14]
set_option maxHeartbeats 4000000 in
theorem rx_17 (C : RCtx tr g sp ip k4 k5 rm n1 N vB vr L Q q rs pc 17 d a b m W) : Goal28 h0 g tr rm n1 vB vr L rs pc W (execO q L rs pc 17 d a b m) := by
  unfold Goal28 execO
  obtain ⟨ci, i0, i1, i2, i3, i4⟩ := C.i
  obtain ⟨c, hx, hc⟩ := C.x
  obtain ⟨c4, h4, s4, q4⟩ := C.r4
  obtain ⟨c5, h5, s5, q5⟩ := C.r5
  have hs := hc.size; have hr := hc.ro; have hpc := hc.pc
  obtain ⟨e1, e2, e3⟩ := C.ne
  obtain ⟨w1, w2, w3⟩ := C.Ws
  have e1' := e1.symm; have e2' := e2.symm; have e3' := e3.symm
  have t1 := C.t1; have t2 := C.t2; have t4 := C.t4; have t5 := C.t5; have t8 := C.t8; have t10 := C.t10; have t11 := C.t11; have t12 := C.t12; have t13 := C.t13; have t14 := C.t14
  have hd := C.d16
  have hd17 : d < 17 := by omega
  have hrd := hc.reg d hd
  have him := i_im m
  have him2 := i_im2 m
  have l1 := Heap.lt_of_get hx; have l4 := Heap.lt_of_get h4; have l5 := Heap.lt_of_get h5
  have s38 : ∀ o, (g.set sp o).get k4 = some (.cells c4 28) := fun o => by rw [w_set_ne l1 e1']; exact h4
  have s39 : ∀ o, (g.set sp o).get k5 = some (.cells c5 38) := fun o => by rw [w_set_ne l1 e2']; exact h5
  simp only [Nat.reduceEqDiff, if_false]
  simp -implicitDefEqProofs (disch := (first | omega | (simp -implicitDefEqProofs only [szs, ne_eq] <;> omega) | fail)) only [go_sem, seval, ↓reduceIte, ir28_r10_eq, ir28_s10, t8, t10, t11, i0, i1, i2]
  refine GCall.of (rmath_ok (R := fun _ => True) (W := W) (op := 17) (by omega) (rs a) (rs b)) ?_
  rintro r g1 ⟨rfl, hg1⟩
  rw [hg1]
  cases hal : alu 17 (rs a) (rs b) with
  | none =>
    have a0 := hc.reg 0 (by omega)
    have a1 := hc.reg 1 (by omega)
    have a2 := hc.reg 2 (by omega)
    have a3 := hc.reg 3 (by omega)
    have a4 := hc.reg 4 (by omega)
    have a5 := hc.reg 5 (by omega)
    have a6 := hc.reg 6 (by omega)
    have a7 := hc.reg 7 (by omega)
    have a8 := hc.reg 8 (by omega)
    have a9 := hc.reg 9 (by omega)
    have a10 := hc.reg 10 (by omega)
    have a11 := hc.reg 11 (by omega)
    have a12 := hc.reg 12 (by omega)
    have a13 := hc.reg 13 (by omega)
    have a14 := hc.reg 14 (by omega)
    have a15 := hc.reg 15 (by omega)
    simp -implicitDefEqProofs (disch := (first | omega | (simp -implicitDefEqProofs only [szs, ne_eq] <;> omega) | fail)) only [go_sem, seval, ↓reduceIte, undefV, t2, t4, t5, hx, hs, h4, s4, q4, h5, s5, q5, w2, w3, aluV, hpc, a0, a1, a2, a3, a4, a5, a6, a7, a8, a9, a10, a11, a12, a13, a14, a15]
    have hp : ∀ j, j < 17 → (c4.putA 0 [U (rs 0), U (rs 1), U (rs 2), U (rs 3), U (rs 4), U (rs 5), U (rs 6), U (rs 7), U (rs 8), U (rs 9), U (rs 10), U (rs 11), U (rs 12), U (rs 13), U (rs 14), U (rs 15), U pc]).get j = [U (rs 0), U (rs 1), U (rs 2), U (rs 3), U (rs 4), U (rs 5), U (rs 6), U (rs 7), U (rs 8), U (rs 9), U (rs 10), U (rs 11), U (rs 12), U (rs 13), U (rs 14), U (rs 15), U pc].getD j undefV := fun j hj => get_put17 s4 _ rfl j hj
    rw [hp 0 (by omega), hp 1 (by omega), hp 2 (by omega), hp 3 (by omega), hp 4 (by omega), hp 5 (by omega), hp 6 (by omega), hp 7 (by omega), hp 8 (by omega), hp 9 (by omega), hp 10 (by omega), hp 11 (by omega), hp 12 (by omega), hp 13 (by omega), hp 14 (by omega), hp 15 (by omega), hp 16 (by omega)]
    have y2 : ∀ o, (g.set k4 o).get k5 = some (.cells c5 38) := fun o => by rw [w_set_ne l4 e3']; exact h5
    exact ⟨rfl, C.mem.keep fun b d e n1 n2 n3 hb => set_e (y2 _) b d e n2 (set_e h4 b d e n1 hb)⟩
  | some v =>
    simp -implicitDefEqProofs (disch := (first | omega | (simp -implicitDefEqProofs only [szs, ne_eq] <;> omega) | fail)) only [go_sem, seval, ↓reduceIte, undefV, t2, t8, i0, i1, i3, hx, hs, hr, w1, aluV]
    refine tail28 (w_set_eq l1 rfl _) (hc.setR hd _) (s38 _) ⟨s4, q4⟩ (s39 _) ⟨s5, q5⟩ C.ne (C.mem.keep fun b d e n1 n2 n3 hb => set_e hx b d e n1 hb) C.Ws ?_ ?_ ?_ ?_
    · simp -implicitDefEqProofs (disch := (first | omega | (simp -implicitDefEqProofs only [szs, ne_eq] <;> omega) | fail)) only [go_sem, seval, ↓reduceIte, t2]
    · simp -implicitDefEqProofs (disch := (first | omega | (simp -implicitDefEqProofs only [szs, ne_eq] <;> omega) | fail)) only [go_sem, seval, ↓reduceIte, t4]
    · simp -implicitDefEqProofs (disch := (first | omega | (simp -implicitDefEqProofs only [szs, ne_eq] <;> omega) | fail)) only [go_sem, seval, ↓reduceIte, t5]
    · simp -implicitDefEqProofs (disch := (first | omega | (simp -implicitDefEqProofs only [szs, ne_eq] <;> omega) | fail)) only [go_sem, seval, ↓reduceIte, t14]
end Go.Proofs.Ytmkdbninmimndaa
