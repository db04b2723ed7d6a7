/- The log: load. -/
import Derived.Test.YtakgjjbmniilhaaHE
set_option linter.unusedVariables false
set_option linter.unusedSimpArgs false
set_option linter.unusedSimpArgs false
set_option maxRecDepth 100000
set_option linter.unusedVariables false
set_option linter.unusedSimpArgs false
namespace Go.Proofs.Ytakgjjbmniilhaa
open Go Go.Vm
attribute [-go_sem] sz_101
variable {h g : Heap} {R W M : Set'} {bd lp fr ct : Nat} {D : DS}
def LogW (h : Heap) (lp bd fr ct : Nat) (H : Hd) (v10 : V) : Prop := ∃ c, h.get lp = some (.cells c 47) ∧ c.size = 13 ∧ c.ro = false ∧ c.get 0 = .ptr (some (bd, 0)) ∧ c.get 1 = .int .i64 (fr : Int) ∧ c.get 2 = .int .i64 (ct : Int) ∧ c.gets 3 5 = H.v ∧ c.get 10 = v10
def N5 (h : Heap) (N : Set') : Set' := fun b => N b ∧ ∃ c, h.get b = some (.cells c 5)
structure LogR (g : Heap) (lp bd fr ct : Nat) (N : Set') (v10 : V) (H : Hd) (nx at' : Nat) (sn : List V) (rs : List (List V)) (c : Blk) (v11 rv : V) (vs : List V) : Prop where
  l1 : g.get lp = some (.cells c 47)
  l2 : c.size = 13
  l3 : c.ro = false
  k0 : c.get 0 = .ptr (some (bd, 0))
  k1 : c.get 1 = .int .i64 (fr : Int)
  k2 : c.get 2 = .int .i64 (ct : Int)
  k3 : c.gets 3 5 = H.v
  k8 : c.get 8 = .int .u64 (nx : Int)
  k9 : c.get 9 = .int .i64 (at' : Int)
  k10 : c.get 10 = v10
  k11 : c.get 11 = v11
  k12 : c.get 12 = rv
  sd : LR g (N5 g N) v11 sn
  vd : Own 0 g rv vs 22
  vn : rv = .slice none 0 0 true ∨ N (sblk rv)
  vl : vs.length = rs.length
  ve : ∀ i l, rs[i]? = some l → LR g (N5 g N) (vs.getD i undefV) l
def LogAt (g : Heap) (lp bd fr ct : Nat) (N : Set') (v10 : V) (H : Hd) (nx at' : Nat) (sn : List V) (rs : List (List V)) : Prop := ∃ c v11 rv vs, LogR g lp bd fr ct N v10 H nx at' sn rs c v11 rv vs
def snapA (D : DS) (fr ct : Nat) (H : Hd) : List V := (snapC (secA D fr ct H.ha) (secsN H.sz)).take H.sz
noncomputable def loadF (D : DS) (fr ct : Nat) (H : Hd) : List (List V) × Nat × Nat := (runL (secA D fr ct H.ha) H.ep ((ct - 2) / 2 - secsN H.sz) (secsN H.sz) (freshL H.fi H.si [] (secsN H.sz))).fin
noncomputable def ir35_d3 : LC := (.seq (.draw [⟨some 86, Op.load 32 (Operand.tmp 1), none⟩,
    ⟨some 87, Op.nilCheck (Operand.tmp 86), none⟩,
    ⟨some 88, Op.fieldAddr 47 (Operand.tmp 87) 3, none⟩,
    ⟨some 89, Op.fieldAddr 44 (Operand.tmp 88) 4, none⟩,
    ⟨some 90, Op.load 42 (Operand.tmp 89), none⟩,
    ⟨some 91, Op.load 32 (Operand.tmp 1), none⟩,
    ⟨some 92, Op.nilCheck (Operand.tmp 91), none⟩,
    ⟨some 93, Op.fieldAddr 47 (Operand.tmp 92) 3, none⟩,
    ⟨some 94, Op.fieldAddr 44 (Operand.tmp 93) 1, none⟩,
    ⟨some 95, Op.load 42 (Operand.tmp 94), none⟩,
    ⟨some 96, Op.build 90 #[(0, Operand.tmp 90), (1, Operand.tmp 95)], none⟩,
    ⟨some 8, Op.alloc 90, none⟩,
    ⟨none, Op.store 90 (Operand.tmp 8) (Operand.tmp 96), none⟩] [(0, 11), (1, 11), (2, 11), (3, 11), (4, 11), (5, 11), (6, 11), (7, 11), (8, 11), (9, 11), (10, 11)])
  (.seq (.ops [⟨some 9, Op.alloc 22, none⟩])
  (.seq (.ops [⟨some 10, Op.alloc 3, none⟩,
    ⟨none, Op.store 3 (Operand.tmp 10) (Operand.const (Value.int IntKind.i64 0)), none⟩])
  (.seq .skip
  (.seq (.draw [⟨some 97, Op.load 32 (Operand.tmp 1), none⟩,
    ⟨some 98, Op.load 32 (Operand.tmp 1), none⟩,
    ⟨some 99, Op.nilCheck (Operand.tmp 98), none⟩,
    ⟨some 100, Op.fieldAddr 47 (Operand.tmp 99) 5, none⟩,
    ⟨some 101, Op.load 3 (Operand.tmp 100), none⟩,
    ⟨some 102, Op.call { callee := Callee.value (Operand.func 70), args := #[Operand.tmp 97, Operand.tmp 101], argTypes := #[32, 3] }, none⟩] [])
  (.block 2 (.range (Operand.tmp 102) #[103, 104] (rc35 0).1 (rc35 0).2)))))))
noncomputable def ir35_d2 : LC := (.seq (.draw [⟨some 65, Op.load 32 (Operand.tmp 1), none⟩,
    ⟨some 66, Op.load 32 (Operand.tmp 1), none⟩,
    ⟨some 67, Op.load 32 (Operand.tmp 1), none⟩,
    ⟨some 68, Op.load 32 (Operand.tmp 1), none⟩,
    ⟨some 69, Op.nilCheck (Operand.tmp 68), none⟩,
    ⟨some 70, Op.fieldAddr 47 (Operand.tmp 69) 3, none⟩,
    ⟨some 71, Op.fieldAddr 44 (Operand.tmp 70) 3, none⟩,
    ⟨some 72, Op.load 42 (Operand.tmp 71), none⟩,
    ⟨some 73, Op.convert 42 3 (Operand.tmp 72), none⟩,
    ⟨some 74, Op.call { callee := Callee.value (Operand.func 69), args := #[Operand.tmp 73], argTypes := #[3] }, none⟩,
    ⟨some 75, Op.load 32 (Operand.tmp 1), none⟩,
    ⟨some 76, Op.nilCheck (Operand.tmp 75), none⟩,
    ⟨some 77, Op.fieldAddr 47 (Operand.tmp 76) 3, none⟩,
    ⟨some 78, Op.fieldAddr 44 (Operand.tmp 77) 4, none⟩,
    ⟨some 79, Op.load 42 (Operand.tmp 78), none⟩,
    ⟨some 80, Op.nilCheck (Operand.tmp 65), none⟩,
    ⟨some 81, Op.fieldAddr 47 (Operand.tmp 80) 5, none⟩,
    ⟨none, Op.store 3 (Operand.tmp 81) (Operand.tmp 74), none⟩,
    ⟨some 82, Op.nilCheck (Operand.tmp 66), none⟩,
    ⟨some 83, Op.fieldAddr 47 (Operand.tmp 82) 4, none⟩,
    ⟨none, Op.store 42 (Operand.tmp 83) (Operand.tmp 79), none⟩,
    ⟨some 84, Op.nilCheck (Operand.tmp 67), none⟩,
    ⟨some 85, Op.fieldAddr 47 (Operand.tmp 84) 8, none⟩,
    ⟨none, Op.store 45 (Operand.tmp 85) (Operand.const (Value.slice none 0 0)), none⟩] [(0, 9), (1, 9), (2, 9), (9, 10), (9, 11), (9, 12), (9, 13), (9, 14), (1, 17), (2, 17), (2, 20)])
  ir35_d3)
noncomputable def ir35_d1 : LC := (.seq (.draw [⟨some 50, Op.load 32 (Operand.tmp 1), none⟩,
    ⟨some 51, Op.move (Operand.tmp 4), none⟩,
    ⟨some 52, Op.load 32 (Operand.tmp 1), none⟩,
    ⟨some 53, Op.nilCheck (Operand.tmp 52), none⟩,
    ⟨some 54, Op.fieldAddr 47 (Operand.tmp 53) 3, none⟩,
    ⟨some 55, Op.fieldAddr 44 (Operand.tmp 54) 3, none⟩,
    ⟨some 56, Op.load 42 (Operand.tmp 55), none⟩,
    ⟨some 57, Op.load 32 (Operand.tmp 1), none⟩,
    ⟨some 58, Op.nilCheck (Operand.tmp 57), none⟩,
    ⟨some 59, Op.fieldAddr 47 (Operand.tmp 58) 3, none⟩,
    ⟨some 60, Op.fieldAddr 44 (Operand.tmp 59) 3, none⟩,
    ⟨some 61, Op.load 42 (Operand.tmp 60), none⟩,
    ⟨some 62, Op.slice 22 (Operand.tmp 51) none (some (Operand.tmp 56)) (some (Operand.tmp 61)), none⟩,
    ⟨some 63, Op.nilCheck (Operand.tmp 50), none⟩,
    ⟨some 64, Op.fieldAddr 47 (Operand.tmp 63) 7, none⟩,
    ⟨none, Op.store 22 (Operand.tmp 64) (Operand.tmp 62), none⟩] [])
  ir35_d2)
noncomputable def ir35_c : LC := (.seq (.ops [⟨some 1, Op.box 32 (Operand.tmp 0), none⟩])
  (.seq (.ops [⟨some 14, Op.load 32 (Operand.tmp 1), none⟩,
    ⟨some 15, Op.call { callee := Callee.value (Operand.func 40), args := #[Operand.tmp 14], argTypes := #[32] }, none⟩,
    ⟨some 13, Op.move (Operand.tmp 15), none⟩,
    ⟨some 16, Op.extract (Operand.tmp 13) 0, none⟩,
    ⟨some 17, Op.extract (Operand.tmp 13) 1, none⟩,
    ⟨some 2, Op.alloc 86, none⟩,
    ⟨none, Op.store 86 (Operand.tmp 2) (Operand.tmp 16), none⟩,
    ⟨some 3, Op.assign (Operand.tmp 17), none⟩])
  (.seq (.ops [⟨some 4, Op.assign (Operand.const (Value.slice none 0 0)), none⟩])
  (.seq (.seq (.ops [⟨some 18, Op.load 32 (Operand.tmp 1), none⟩,
    ⟨some 19, Op.nilCheck (Operand.tmp 18), none⟩,
    ⟨some 20, Op.fieldAddr 47 (Operand.tmp 19) 3, none⟩,
    ⟨some 21, Op.fieldAddr 44 (Operand.tmp 20) 3, none⟩,
    ⟨some 22, Op.load 42 (Operand.tmp 21), none⟩,
    ⟨some 23, Op.convert 42 3 (Operand.tmp 22), none⟩,
    ⟨some 24, Op.call { callee := Callee.value (Operand.func 69), args := #[Operand.tmp 23], argTypes := #[3] }, none⟩,
    ⟨some 25, Op.move (Operand.const (Value.int IntKind.i64 0)), none⟩])
  (.block 0 (.loop ir35_l0)))
  ir35_d1))))
theorem ir35_c_eq : ir35 = ir35_c := rfl
set_option maxHeartbeats 8000000 in
theorem d1_ok {Q : Ex → Fr → Heap → Prop} {t : List It} {g : Heap} {xb sz : Nat} {tr : Tr V} {cx c : Blk} {v v' : V} (hR : ∀ b, R b) (hW : W lp)
    (t1 : tr.get 1 = some (.ptr (some (xb, 0)))) (t4 : tr.get 4 = some v)
    (x1 : g.get xb = some (.cells cx 32)) (x2 : cx.size = 1) (x3 : cx.get 0 = .ptr (some (lp, 0)))
    (l1 : g.get lp = some (.cells c 47)) (l2 : c.size = 13) (l3 : c.ro = false) (c6 : c.get 6 = .int .u64 (sz : Int))
    (hs : sliceV Try.prog 22 v none (some (sz : Int)) (some (sz : Int)) = some v') (hv : v.one = true) (hv' : v'.one = true) (hvc : v'.cellsV = [v'])
    (hk : ∀ tr', tr'.get 1 = some (.ptr (some (xb, 0))) → GO (⟨Try.prog, true⟩ : MP) R W none Q (.code ir35_d2 :: t) ⟨⟨211, tr'⟩, []⟩ (g.set lp (.cells (c.set 11 v') 47))) :
    GO (⟨Try.prog, true⟩ : MP) R W none Q (.code ir35_d1 :: t) ⟨⟨211, tr⟩, []⟩ g := by
  have ra := hR xb
  have rb := hR lp
  simp -implicitDefEqProofs (disch := (first | omega | (simp -implicitDefEqProofs only [szs, ne_eq] <;> omega) | fail)) only [go_sem, seval, ↓reduceIte, reduceCtorEq, ir35_d1, undefV, t1, t4, x1, x2, x3, l1, l2, l3, c6, ra, rb, hs, ↓hv, ↓hv', ↓hvc, hW]
  refine hk _ ?_
  simp -implicitDefEqProofs (disch := (first | omega | (simp -implicitDefEqProofs only [szs, ne_eq] <;> omega) | fail)) only [go_sem, seval, ↓reduceIte, reduceCtorEq, t1]
set_option maxHeartbeats 8000000 in
theorem d2_ok {Q : Ex → Fr → Heap → Prop} {t : List It} {g : Heap} {xb sz fi : Nat} {tr : Tr V} {cx c : Blk} (hR : ∀ b, R b) (hW : W lp) (hsz : sz ≤ 1000000000)
    (t1 : tr.get 1 = some (.ptr (some (xb, 0))))
    (x1 : g.get xb = some (.cells cx 32)) (x2 : cx.size = 1) (x3 : cx.get 0 = .ptr (some (lp, 0))) (hxl : xb ≠ lp)
    (l1 : g.get lp = some (.cells c 47)) (l2 : c.size = 13) (l3 : c.ro = false) (c6 : c.get 6 = .int .u64 (sz : Int)) (c7 : c.get 7 = .int .u64 (fi : Int))
    (hk : ∀ tr' g', tr'.get 1 = some (.ptr (some (xb, 0))) → g'.n = g.n → (∀ k, k ≠ lp → g'.get k = g.get k) → g'.get lp = some (.cells (((c.set 9 (.int .i64 (secsN sz : Nat))).set 8 (.int .u64 (fi : Int))).set 12 (.slice none 0 0 true)) 47) → GO (⟨Try.prog, true⟩ : MP) R W none Q (.code ir35_d3 :: t) ⟨⟨211, tr'⟩, []⟩ g') :
    GO (⟨Try.prog, true⟩ : MP) R W none Q (.code ir35_d2 :: t) ⟨⟨211, tr⟩, []⟩ g := by
  have ra := hR xb
  have rb := hR lp
  have hll := Heap.lt_of_get l1
  have hcv : IntKind.i64.wrap (sz : Int) = (sz : Int) := by rw [IntWalk.i64_in] <;> omega
  simp -implicitDefEqProofs (disch := (first | omega | (simp -implicitDefEqProofs only [szs, ne_eq] <;> omega) | fail)) only [go_sem, seval, ↓reduceIte, reduceCtorEq, ir35_d2, undefV, t1, x1, x2, x3, l1, l2, l3, c6, c7, ra, rb, hW, cvd42_3, cv42_3, c42_3, hcv]
  refine GCallD.of ((sectors_ok (R := noW) (W := noW) (n := sz) (by omega)).foot (fun _ h => h) (fun _ h => h)) ?_
  rintro r g1 ⟨rfl, rfl⟩
  simp -implicitDefEqProofs (disch := (first | omega | (simp -implicitDefEqProofs only [szs, ne_eq] <;> omega) | fail)) only [go_sem, seval, ↓reduceIte, reduceCtorEq, undefV, t1, x1, x2, x3, l1, l2, l3, c6, c7, ra, rb, hW]
  refine ⟨?_, ⟨fun b _ h => h.elim, fun b _ h => h.elim⟩, hk _ _ ?_ ?_ ?_ ?_⟩
  · and_intros
    all_goals (intro b hb hc; simp only [noW, List.not_mem_nil, and_false, false_or, or_false, List.mem_singleton] at hb hc <;> omega)
  · simp -implicitDefEqProofs (disch := (first | omega | (simp -implicitDefEqProofs only [szs, ne_eq] <;> omega) | fail)) only [go_sem, seval, ↓reduceIte, reduceCtorEq, t1]
  · simp only [Heap.n_set]
  · intro k hk
    rw [w_set_ne (by simp only [Heap.n_set]; exact hll) hk, w_set_ne (by simp only [Heap.n_set]; exact hll) hk, w_set_ne hll hk]
  · exact w_set_eq (by simp only [Heap.n_set]; exact hll) rfl _
theorem Own.nb {n0 : Nat} {h : Heap} {v : V} {l : List V} {e : TypeId} (ho : Own n0 h v l e) : v = .slice none 0 0 true ∨ n0 ≤ sblk v := by
  rcases ho with ⟨rfl, rfl | ⟨b, c, rfl, h1, hb, hr⟩⟩ | ⟨b, x, c, h0, rfl, h1, hb, hs⟩
  · exact .inl rfl
  · exact .inr h1
  · exact .inr h1
set_option maxHeartbeats 8000000 in
theorem d3_ok {Q : Ex → Fr → Heap → Prop} {t : List It} {g : Heap} {xb a : Nat} {H : Hd} {tr : Tr V} {cx c : Blk} {v10 v11 : V} (hR : ∀ b, R b) (hW : ∀ k, g.n ≤ k → W k) (hWl : W lp) (hxl : xb ≠ lp)
    (t1 : tr.get 1 = some (.ptr (some (xb, 0))))
    (x1 : g.get xb = some (.cells cx 32)) (x2 : cx.size = 1) (x3 : cx.get 0 = .ptr (some (lp, 0)))
    (l1 : g.get lp = some (.cells c 47)) (l2 : c.size = 13) (l3 : c.ro = false) (k0 : c.get 0 = .ptr (some (bd, 0))) (k1 : c.get 1 = .int .i64 (fr : Int)) (k2 : c.get 2 = .int .i64 (ct : Int)) (k3 : c.gets 3 5 = H.v) (k8 : c.get 8 = .int .u64 (H.fi : Int)) (k9 : c.get 9 = .int .i64 (a : Int)) (k10 : c.get 10 = v10) (k11 : c.get 11 = v11) (k12 : c.get 12 = .slice none 0 0 true)
    (hx : DkX g M bd D) (hM : ¬ M lp) (hc : 16 ≤ ct ∧ fr + ct ≤ D.n) (hD : D.n ≤ 4096) (hha : H.ha < 2) (hfi : H.fi ≤ 4611686018427387904) (ha : a ≤ (ct - 2) / 2)
    (hk : ∀ tr' g' s m, LdM g' lp bd fr ct g.n (g.n + 7) v10 v11 H s → s.fin = (runL (secA D fr ct H.ha) H.ep ((ct - 2) / 2 - a) a (freshL H.fi H.si [] a)).fin → g.n ≤ g'.n → g.n ≤ m → g'.get m = some (.deferred true) → (∀ k, k < g.n → k ≠ lp → g'.get k = g.get k) → GO (⟨Try.prog, true⟩ : MP) R W none Q t ⟨⟨211, tr'⟩, [m]⟩ g') :
    GO (⟨Try.prog, true⟩ : MP) R W none Q (.code ir35_d3 :: t) ⟨⟨211, tr⟩, []⟩ g := by
  have ra := hR xb
  have rb := hR lp
  have c4 : c.get 4 = .int .u64 (H.si : Int) := hd_get k3 (j := 1) (by omega)
  have c7 : c.get 7 = .int .u64 (H.fi : Int) := hd_get k3 (j := 4) (by omega)
  have hll := Heap.lt_of_get l1
  have hxx := Heap.lt_of_get x1
  simp -implicitDefEqProofs (disch := (first | omega | (simp -implicitDefEqProofs only [szs, ne_eq] <;> omega) | fail)) only [go_sem, seval, ↓reduceIte, reduceCtorEq, ir35_d3, undefV, t1, x1, x2, x3, l1, l2, l3, c4, c7, k9, ra, rb]
  refine ⟨by (try simp only [List.not_mem_nil, or_false, false_or, and_false, false_and, false_implies, implies_true, not_false_eq_true, List.mem_singleton, List.mem_cons, and_true, true_and, forall_const]; try and_intros; all_goals (try trivial); all_goals (intro b hb; first | omega | (intro hc; first | omega | (rcases hb with hb | hb <;> first | omega)))), fun _ => hW _ (Nat.le_refl _), hW _ (by omega), ?_⟩
  refine GCallD.of ((ok70 (R := noW) (W := noW) (at' := (a : Int))).foot (fun _ h => h) (fun _ h => h)) ?_
  rintro r g1 ⟨rfl, e1⟩
  simp -implicitDefEqProofs (disch := (first | omega | (simp -implicitDefEqProofs only [szs, ne_eq] <;> omega) | fail)) only [go_sem, seval, ↓reduceIte, reduceCtorEq, undefV, t1]
  obtain ⟨cw, ecw⟩ : ∃ cw, cw = ((((Blk.of [V.int IntKind.u64 0, V.int IntKind.u64 0, V.int IntKind.u8 0, V.int IntKind.u8 0]).set 0 (V.int IntKind.u64 ↑H.fi)).set 1 (V.int IntKind.u64 ↑H.si)).set 2 (V.int IntKind.u8 0)).set 3 (V.int IntKind.u8 0) := ⟨_, rfl⟩
  rw [← ecw] at e1
  have hs : ∀ x : Nat, x < g.n + 5 → x < g.n + 5 := fun _ h => h
  have nG : g1.n = g.n + 5 := by rw [e1]; simp only [Heap.n_push, Heap.n_set]
  have B0 : g1.get g.n = some (.cells cw 90) := by
    rw [e1, w_push_ne (by simp only [Heap.n_push, Heap.n_set]; omega), w_push_ne (by simp only [Heap.n_push, Heap.n_set]; omega), w_set_ne (by simp only [Heap.n_push, Heap.n_set]; omega) (by omega), w_push_ne (by simp only [Heap.n_push, Heap.n_set]; omega), w_push_ne (by simp only [Heap.n_push, Heap.n_set]; omega)]
    exact w_set_eq (by simp only [Heap.n_push]; omega) rfl _
  have B1 : g1.get (g.n + 1) = some (.cells (Blk.of [V.slice none 0 0 true]) 22) := by
    rw [e1, w_push_ne (by simp only [Heap.n_push, Heap.n_set]; omega), w_push_ne (by simp only [Heap.n_push, Heap.n_set]; omega), w_set_ne (by simp only [Heap.n_push, Heap.n_set]; omega) (by omega), w_push_ne (by simp only [Heap.n_push, Heap.n_set]; omega)]
    exact w_push_eq (by simp only [Heap.n_push, Heap.n_set]) _
  have B2 : g1.get (g.n + 2) = some (.cells ((Blk.of [V.int IntKind.i64 0]).set 0 (V.int IntKind.i64 0)) 3) := by
    rw [e1, w_push_ne (by simp only [Heap.n_push, Heap.n_set]; omega), w_push_ne (by simp only [Heap.n_push, Heap.n_set]; omega)]
    exact w_set_eq (by simp only [Heap.n_push, Heap.n_set]; omega) rfl _
  have B3 : g1.get (g.n + 3) = some (.cells (Blk.of [V.ptr (some (lp, 0))]) 32) := by
    rw [e1, w_push_ne (by simp only [Heap.n_push, Heap.n_set]; omega)]
    exact w_push_eq (by simp only [Heap.n_push, Heap.n_set]) _
  have B4 : g1.get (g.n + 4) = some (.cells (Blk.of [V.int IntKind.i64 (a : Int)]) 3) := by
    rw [e1]
    exact w_push_eq (by simp only [Heap.n_push, Heap.n_set]) _
  have kG : ∀ k, k < g.n → g1.get k = g.get k := fun k hk => by
    rw [e1, w_push_ne (by simp only [Heap.n_push, Heap.n_set]; omega), w_push_ne (by simp only [Heap.n_push, Heap.n_set]; omega), w_set_ne (by simp only [Heap.n_push, Heap.n_set]; omega) (by omega), w_push_ne (by simp only [Heap.n_push, Heap.n_set]; omega), w_push_ne (by simp only [Heap.n_push, Heap.n_set]; omega), w_set_ne (by simp only [Heap.n_push]; omega) (by omega), w_push_ne (by omega)]
  clear e1
  have hl : LdM g1 lp bd fr ct g.n (g1.n + 2) v10 v11 H (freshL H.fi H.si [] a) := by
    refine ⟨c, cw, _, _, _, _, [], (kG lp hll).trans l1, l2, l3, k0, k1, k2, k3, k8, k9, k10, k11, k12, B0, by rw [ecw]; simp only [Blk.size_set]; rfl, by rw [ecw]; simp only [Blk.ro_set]; rfl, ?_, ?_, ?_, ?_, B1, rfl, rfl, rfl, Own.nil _ _ _, B2, by simp only [Blk.size_set]; rfl, by simp only [Blk.ro_set]; rfl, ?_, Own.nil _ _ _, rfl, fun i l hi => by simp [freshL] at hi⟩
    · rw [ecw]; simp -implicitDefEqProofs (disch := (first | omega | (simp -implicitDefEqProofs only [szs, ne_eq] <;> omega) | fail)) only [go_sem, seval, ↓reduceIte, reduceCtorEq, freshL]
    · rw [ecw]; simp -implicitDefEqProofs (disch := (first | omega | (simp -implicitDefEqProofs only [szs, ne_eq] <;> omega) | fail)) only [go_sem, seval, ↓reduceIte, reduceCtorEq, freshL]
    · rw [ecw]; simp -implicitDefEqProofs (disch := (first | omega | (simp -implicitDefEqProofs only [szs, ne_eq] <;> omega) | fail)) only [go_sem, Nat.reduceAdd, Nat.reduceSub, Nat.reduceMul, Nat.reduceLT, Nat.reduceMod, Nat.reduceDiv, Nat.reduceEqDiff, Nat.reduceBEq, Nat.reduceLeDiff, ↓reduceIte, reduceCtorEq, Int.reduceAdd, Int.reduceSub, Int.reduceLT, Int.reduceLE, Int.reduceBEq, Int.reduceEq, Int.reduceToNat, freshL]; rfl
    · rw [ecw]; simp -implicitDefEqProofs (disch := (first | omega | (simp -implicitDefEqProofs only [szs, ne_eq] <;> omega) | fail)) only [go_sem, Nat.reduceAdd, Nat.reduceSub, Nat.reduceMul, Nat.reduceLT, Nat.reduceMod, Nat.reduceDiv, Nat.reduceEqDiff, Nat.reduceBEq, Nat.reduceLeDiff, ↓reduceIte, reduceCtorEq, Int.reduceAdd, Int.reduceSub, Int.reduceLT, Int.reduceLE, Int.reduceBEq, Int.reduceEq, Int.reduceToNat, freshL]; rfl
    · simp -implicitDefEqProofs (disch := (first | omega | (simp -implicitDefEqProofs only [szs, ne_eq] <;> omega) | fail)) only [go_sem, Nat.reduceAdd, Nat.reduceSub, Nat.reduceMul, Nat.reduceLT, Nat.reduceMod, Nat.reduceDiv, Nat.reduceEqDiff, Nat.reduceBEq, Nat.reduceLeDiff, ↓reduceIte, reduceCtorEq, Int.reduceAdd, Int.reduceSub, Int.reduceLT, Int.reduceLE, Int.reduceBEq, Int.reduceEq, Int.reduceToNat, freshL]; rfl
  refine ⟨⟨fun _ => ra, fun _ => ra, fun _ => rb, fun b _ h => h.elim, fun b _ h => h.elim⟩, ld_range (xb := xb) (b1 := g.n + 3) (b2 := g.n + 4) hR hW hWl ⟨hll, hxx, hxl, by omega, by omega, by omega⟩ (hx.old (by omega) kG) (fun k hk => ⟨hx.lt k hk, fun e => hM (e ▸ hk)⟩) (by simp -implicitDefEqProofs (disch := (first | omega | (simp -implicitDefEqProofs only [szs, ne_eq] <;> omega) | fail)) only [go_sem, seval, ↓reduceIte, reduceCtorEq, t1]) (by simp -implicitDefEqProofs (disch := (first | omega | (simp -implicitDefEqProofs only [szs, ne_eq] <;> omega) | fail)) only [go_sem, seval, ↓reduceIte, reduceCtorEq]) (by simp -implicitDefEqProofs (disch := (first | omega | (simp -implicitDefEqProofs only [szs, ne_eq] <;> omega) | fail)) only [go_sem, seval, ↓reduceIte, reduceCtorEq]) (by simp -implicitDefEqProofs (disch := (first | omega | (simp -implicitDefEqProofs only [szs, ne_eq] <;> omega) | fail)) only [go_sem, seval, ↓reduceIte, reduceCtorEq]) (by simp -implicitDefEqProofs (disch := (first | omega | (simp -implicitDefEqProofs only [szs, ne_eq] <;> omega) | fail)) only [go_sem, seval, ↓reduceIte, reduceCtorEq]) ((kG xb hxx).trans x1) x2 x3 B3 B4 hc hD hha hfi ha hl fun g' s q1 q2 q3 q4 q5 => ?_⟩
  rw [show g1.n + 2 = g.n + 7 by omega] at q1
  exact hk _ g' s g1.n q1 q2 (by omega) (by omega) q4 (fun k hk1 hk2 => (q5 k hk1 hk2).trans (kG k hk1))
set_option maxHeartbeats 16000000 in
theorem load_ok {H : Hd} {v10 : V} (hx : DkX h M bd D) (hl : LogW h lp bd fr ct H v10) (hM : ¬ M lp) (hc : 16 ≤ ct ∧ fr + ct ≤ D.n) (hD : D.n ≤ 4096) (hha : H.ha < 2) (hsz : H.sz ≤ (ct - 2) / 2 * 120) (hfi : H.fi ≤ 4611686018427387904) (hlt : H.Lt) (hR : ∀ b, R b) (hW : W lp) :
    SF ⟨Try.prog, true⟩ 35 [.ptr (some (lp, 0))] h R W fun _ g => h.n ≤ g.n ∧ (∀ k, k < h.n → k ≠ lp → g.get k = h.get k) ∧ LogAt g lp bd fr ct (fun k => h.n ≤ k) v10 H (loadF D fr ct H).2.2 (loadF D fr ct H).2.1 (snapA D fr ct H) (loadF D fr ct H).1 := by
  obtain ⟨c, l1, l2, l3, k0, k1, k2, k3, k10⟩ := hl
  have hll := Heap.lt_of_get l1
  have kA : ∀ (o : O) k, k < h.n → (h.push o).get k = h.get k := fun o k hk => w_push_ne (by omega) _
  have hK : secsN H.sz ≤ (ct - 2) / 2 := by unfold secsN; omega
  have hK2 : H.sz ≤ 120 * secsN H.sz := by unfold secsN; omega
  refine SF.go hm Try.func35 ir35_eq ?_
  rw [ir35_c_eq]
  simp -implicitDefEqProofs (disch := (first | omega | (simp -implicitDefEqProofs only [szs, ne_eq] <;> omega) | fail)) only [go_sem, seval, ↓reduceIte, reduceCtorEq, ir35_c]
  refine GCall.of (SF.any (M := ⟨Try.prog, true⟩) (halves_ok (bd := bd) (fr := fr) (ct := ct) (lp := lp) ⟨c, (kA _ lp hll).trans l1, l2, k0, k1, k2⟩ ⟨by omega, by omega⟩ (by omega) fun b => .inr (hR b))) ?_
  rintro r g1 ⟨rfl, n1, kk1⟩
  rw [Heap.n_push] at n1 kk1
  have L1 := ((kk1 lp (by omega)).trans (kA _ lp hll)).trans l1
  have X1 : g1.get h.n = some (.cells (Blk.of [.ptr (some (lp, 0))]) 32) := (kk1 _ (by omega)).trans (w_push_eq rfl _)
  have ra := hR lp
  have rb := hR h.n
  have c6 : c.get 6 = .int .u64 (H.sz : Int) := hd_get k3 (j := 3) (by omega)
  have hcv : IntKind.i64.wrap (H.sz : Int) = (H.sz : Int) := by rw [IntWalk.i64_in] <;> omega
  have hWn : h.n ≤ g1.n := by omega
  simp -implicitDefEqProofs (disch := (first | omega | (simp -implicitDefEqProofs only [szs, ne_eq] <;> omega) | fail)) only [go_sem, seval, ↓reduceIte, reduceCtorEq, undefV, X1, L1, l2, c6, ra, rb, cv42_3, c42_3, hcv, hWn]
  refine GCall.of (SF.any (M := ⟨Try.prog, true⟩) (sectors_ok (n := H.sz) (by omega))) ?_
  rintro r g2 ⟨rfl, rfl⟩
  simp -implicitDefEqProofs (disch := (first | omega | (simp -implicitDefEqProofs only [szs, ne_eq] <;> omega) | fail)) only [go_sem, seval, ↓reduceIte, reduceCtorEq, undefV]
  obtain ⟨g2, e2⟩ : ∃ g2, g2 = (g1.push (O.cells (Blk.of [V.int IntKind.i64 0, V.int IntKind.i64 0]) 86)).set g1.n (O.cells (((Blk.of [V.int IntKind.i64 0, V.int IntKind.i64 0]).set 0 (V.int IntKind.i64 ((fr + 2 : Nat) : Int))).set 1 (V.int IntKind.i64 ((fr + 2 + (ct - 2) / 2 : Nat) : Int))) 86) := ⟨_, rfl⟩
  rw [← e2]
  have nG : g2.n = g1.n + 1 := by rw [e2]; simp only [Heap.n_push, Heap.n_set]
  have A0 : g2.get g1.n = some (.cells (((Blk.of [V.int IntKind.i64 0, V.int IntKind.i64 0]).set 0 (V.int IntKind.i64 ((fr + 2 : Nat) : Int))).set 1 (V.int IntKind.i64 ((fr + 2 + (ct - 2) / 2 : Nat) : Int))) 86) := by rw [e2]; exact w_set_eq (by simp only [Heap.n_push]; omega) rfl _
  have k2' : ∀ k, k < g1.n → g2.get k = g1.get k := fun k hk => by rw [e2, w_set_ne (by simp only [Heap.n_push]; omega) (by omega), w_push_ne (by omega)]
  clear e2
  have kh : ∀ k, k < h.n → g2.get k = h.get k := fun k hk => by rw [k2' k (by omega), kk1 k (by omega), kA _ k hk]
  have hx2 : DkX g2 M bd D := hx.old (by omega) kh
  have X2 := (k2' _ (by omega)).trans X1
  have L2 := (k2' _ (by omega)).trans L1
  have hsec : ∀ j, j < (ct - 2) / 2 → (secA D fr ct H.ha j).length = 128 := fun j hj => (hx.sec (by
    have : H.ha * ((ct - 2) / 2) + j < 2 * ((ct - 2) / 2) := by
      have : H.ha = 0 ∨ H.ha = 1 := by omega
      rcases this with e | e <;> rw [e] <;> omega
    omega)).1
  have hR' : ∀ b, h.n ≤ b ∨ R b := fun b => .inr (hR b)
  refine ld_loop (xb := h.n) (bb := g1.n) (lp := lp) (fr := fr) (ct := ct) (H := H) hR' (fun k hk => .inl (by omega)) hx2 ⟨c, L2, l2, l3, k0, k1, k2, k3⟩ (by simp -implicitDefEqProofs (disch := (first | omega | (simp -implicitDefEqProofs only [szs, ne_eq] <;> omega) | fail)) only [go_sem, seval, ↓reduceIte, reduceCtorEq]) (by simp -implicitDefEqProofs (disch := (first | omega | (simp -implicitDefEqProofs only [szs, ne_eq] <;> omega) | fail)) only [go_sem, seval, ↓reduceIte, reduceCtorEq]) (by simp -implicitDefEqProofs (disch := (first | omega | (simp -implicitDefEqProofs only [szs, ne_eq] <;> omega) | fail)) only [go_sem, seval, ↓reduceIte, reduceCtorEq]) (by simp -implicitDefEqProofs (disch := (first | omega | (simp -implicitDefEqProofs only [szs, ne_eq] <;> omega) | fail)) only [go_sem, seval, ↓reduceIte, reduceCtorEq]) (by simp -implicitDefEqProofs (disch := (first | omega | (simp -implicitDefEqProofs only [szs, ne_eq] <;> omega) | fail)) only [go_sem, seval, ↓reduceIte, reduceCtorEq]) X2 rfl rfl A0 rfl (by simp -implicitDefEqProofs (disch := (first | omega | (simp -implicitDefEqProofs only [szs, ne_eq] <;> omega) | fail)) only [go_sem, seval, ↓reduceIte, reduceCtorEq]) (by simp -implicitDefEqProofs (disch := (first | omega | (simp -implicitDefEqProofs only [szs, ne_eq] <;> omega) | fail)) only [go_sem, seval, ↓reduceIte, reduceCtorEq]) hc hD hha hK fun tr3 g3 v t1 t4 ho n3 k3' => ?_
  simp -implicitDefEqProofs (disch := (first | omega | (simp -implicitDefEqProofs only [szs, ne_eq] <;> omega) | fail)) only [go_sem, seval, ↓reduceIte, reduceCtorEq]
  have X3 := (k3' _ (by omega)).trans X2
  have L3 := (k3' _ (by omega)).trans L2
  obtain ⟨v', hs1, hs2⟩ := sl_all (sz := H.sz) ho (by rw [snapC_len fun i hi => hsec i (by omega)]; exact hK2)
  have hv'l := hs2.one
  have hv'c := hs2.cells
  have lt3 := Heap.lt_of_get L3
  refine d1_ok (xb := h.n) hR' (.inr hW) t1 t4 X3 rfl rfl L3 l2 l3 c6 hs1 ho.lr.one hv'l hv'c fun tr4 t1 => ?_
  refine d2_ok (xb := h.n) (sz := H.sz) (fi := H.fi) hR' (.inr hW) (by omega) t1 (by rw [w_set_ne lt3 (by omega)]; exact X3) rfl rfl (by omega) (w_set_eq lt3 rfl _) (by simp only [Blk.size_set]; exact l2) (by simp only [Blk.ro_set]; exact l3) (by simp -implicitDefEqProofs (disch := (first | omega | (simp -implicitDefEqProofs only [szs, ne_eq] <;> omega) | fail)) only [go_sem, seval, ↓reduceIte, reduceCtorEq, c6]) (by rw [Blk.get_set, if_neg (by omega)]; exact hd_get k3 (j := 4) (by omega)) fun tr5 g5 t1 n5 k5 L5 => ?_
  rw [Heap.n_set] at n5
  have k5' : ∀ k, k ≠ lp → g5.get k = g3.get k := fun k hk => by rw [k5 k hk, w_set_ne lt3 hk]
  have hv3 : LR g5 (N5 g5 fun k => h.n ≤ k) v' (snapA D fr ct H) := by
    refine (hs2.same (h' := g5) fun b hb _ => k5' b (by omega)).mono fun b _ hb => ⟨by omega, ?_⟩
    obtain ⟨h1, c', h2⟩ := hb
    exact ⟨c', (k5' b (by omega)).trans h2⟩
  refine d3_ok (xb := h.n) (a := secsN H.sz) (H := H) (v10 := v10) (v11 := v') hR' (fun k hk => .inl (by omega)) (.inr hW) (by omega) t1 ((k5' _ (by omega)).trans X3) rfl rfl L5 (by simp only [Blk.size_set]; exact l2) (by simp only [Blk.ro_set]; exact l3) (by simp -implicitDefEqProofs (disch := (first | omega | (simp -implicitDefEqProofs only [szs, ne_eq] <;> omega) | fail)) only [go_sem, seval, ↓reduceIte, reduceCtorEq, k0]) (by simp -implicitDefEqProofs (disch := (first | omega | (simp -implicitDefEqProofs only [szs, ne_eq] <;> omega) | fail)) only [go_sem, seval, ↓reduceIte, reduceCtorEq, k1]) (by simp -implicitDefEqProofs (disch := (first | omega | (simp -implicitDefEqProofs only [szs, ne_eq] <;> omega) | fail)) only [go_sem, seval, ↓reduceIte, reduceCtorEq, k2]) (by rw [gets_out (by omega), gets_out (by omega), gets_out (by omega), gets_out (by omega)]; exact k3) (by simp -implicitDefEqProofs (disch := (first | omega | (simp -implicitDefEqProofs only [szs, ne_eq] <;> omega) | fail)) only [go_sem, seval, ↓reduceIte, reduceCtorEq]) (by simp -implicitDefEqProofs (disch := (first | omega | (simp -implicitDefEqProofs only [szs, ne_eq] <;> omega) | fail)) only [go_sem, seval, ↓reduceIte, reduceCtorEq]) (by simp -implicitDefEqProofs (disch := (first | omega | (simp -implicitDefEqProofs only [szs, ne_eq] <;> omega) | fail)) only [go_sem, seval, ↓reduceIte, reduceCtorEq, k10]) (by simp -implicitDefEqProofs (disch := (first | omega | (simp -implicitDefEqProofs only [szs, ne_eq] <;> omega) | fail)) only [go_sem, seval, ↓reduceIte, reduceCtorEq]) (by simp -implicitDefEqProofs (disch := (first | omega | (simp -implicitDefEqProofs only [szs, ne_eq] <;> omega) | fail)) only [go_sem, seval, ↓reduceIte, reduceCtorEq]) (hx2.same (by omega) fun k hk => ?_) hM hc hD hha hfi hK fun tr6 g6 s m q1 q2 q3 q4 q5 q6 => ?_
  · rw [k5' k (fun e => hM (e ▸ hk)), k3' k (by have := hx2.lt k hk; omega)]
  simp -implicitDefEqProofs (disch := (first | omega | (simp -implicitDefEqProofs only [szs, ne_eq] <;> omega) | fail)) only [go_sem, seval, ↓reduceIte, reduceCtorEq, q5]
  have hml := Heap.lt_of_get q5
  have hkc : ∀ k c e, g6.get k = some (.cells c e) → (g6.set m (O.deferred false)).get k = some (.cells c e) := fun k c e hk => by
    rw [w_set_ne hml fun e => by rw [e, q5] at hk; cases hk]; exact hk
  have n25 : h.n ≤ g5.n := by omega
  refine ⟨.inl (by omega), by omega, fun k hk1 hk2 => ?_, ?_⟩
  · rw [w_set_ne hml (by omega), q6 k (by omega) hk2, k5' k hk2, k3' k (by omega), kh k hk1]
  obtain ⟨c6', cw, cr, cn, rv, v6, vs, hl⟩ := q1
  have e3 : loadF D fr ct H = (s.rs, s.at', s.nx) := q2.symm
  rw [e3]
  refine ⟨c6', v', rv, vs, hkc _ _ _ hl.l1, hl.l2, hl.l3, hl.k0, hl.k1, hl.k2, hl.k3, hl.k8, hl.k9, hl.k10, hl.k11, hl.k12, ?_, own_keep' (hl.vd.mono (Nat.zero_le _)) fun b c' hb _ => hkc _ _ _ hb, ?_, hl.vl, fun i l hi => ?_⟩
  · have hz : ∀ b, N5 g5 (fun k => h.n ≤ k) b → (g6.set m (O.deferred false)).get b = g5.get b := fun b hb => by
      obtain ⟨h1, c', h2⟩ := hb
      have h3 := (q6 b (Heap.lt_of_get h2) (by omega)).trans h2
      rw [hkc _ _ _ h3, h2]
    exact (hv3.same fun b hb _ => hz b hb).mono fun b _ hb => ⟨hb.1, by obtain ⟨c', h2⟩ := hb.2; exact ⟨c', (hz b hb).trans h2⟩⟩
  · exact (Own.nb hl.vd).imp id fun h1 => by omega
  · have hz : ∀ b, (g5.n + 7 ≤ b ∧ b ≠ sblk v6 ∧ ∃ c, g6.get b = some (.cells c 5)) → (g6.set m (O.deferred false)).get b = g6.get b := fun b hb => by
      obtain ⟨_, _, c', h2⟩ := hb
      rw [hkc _ _ _ h2, h2]
    exact ((hl.ve i l hi).same fun b hb _ => hz b hb).mono fun b _ hb => ⟨by omega, by obtain ⟨c', h2⟩ := hb.2.2; exact ⟨c', (hz b hb).trans h2⟩⟩
end Go.Proofs.Ytakgjjbmniilhaa
