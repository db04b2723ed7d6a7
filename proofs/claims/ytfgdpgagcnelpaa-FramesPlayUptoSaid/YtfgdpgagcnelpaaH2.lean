/- The pool: New. -/
import Derived.Test.YtfgdpgagcnelpaaH
import Derived.Test.YtfgdpgagcnelpaaCnt
set_option linter.unusedVariables false
set_option linter.unusedSimpArgs false
set_option linter.unusedSimpArgs false
set_option maxRecDepth 100000
set_option linter.unusedVariables false
set_option linter.unusedSimpArgs false
namespace Go.Proofs.Ytfgdpgagcnelpaa
open Go Go.Vm

theorem ap_49 : apT Try.prog 49 49 = some (3, 1, 8) := by kernel_rfl
theorem ap_35 : apT Try.prog 35 35 = some (5, 1, 1) := by kernel_rfl
theorem clone_ints {h : Heap} {R W : Set'} {b o m cap : Nat} {c : Blk} {ce : TypeId} (hb : h.get b = some (.cells c ce)) (hsz : o + m ≤ c.size) (h0 : 0 < m) (hm8 : m ≤ 8) (hR : R b) :
    SF Try.prog 29 [.slice (some (b, o)) m cap true] h R W fun v h' => v = .slice (some (h.n + 1, 0)) m m false ∧ h' = (h.push (.cells (Blk.of []) 3)).push (.cells (Blk.of (c.gets o m)) 3) := by
  have hlt := Heap.lt_of_get hb
  refine SF.go hm Try.func29 ir29_eq ?_
  have hA := append_whole (e := 3) (bytes := 8) (eb := h.n) (cap := cap) (ex := true) (h := h.push (.cells (Blk.of []) 3)) (te := 3) (b := b) (o := o) (m := m) (c := c) (ce := ce) (by rw [w_push_eq rfl]) (by rw [w_push_ne (show b ≠ h.n by omega)]; exact hb) hsz h0 (by omega) (by omega)
  simp -implicitDefEqProofs (disch := (first | omega | (simp -implicitDefEqProofs only [szs, ne_eq] <;> omega) | fail)) only [go_sem, Nat.reduceAdd, Nat.reduceSub, Nat.reduceMul, Nat.reduceLT, Nat.reduceMod, Nat.reduceDiv, Nat.reduceEqDiff, Nat.reduceBEq, Nat.reduceLeDiff, ↓reduceIte, reduceCtorEq, Int.reduceAdd, Int.reduceSub, Int.reduceLT, Int.reduceLE, Int.reduceBEq, Int.reduceEq, Int.reduceToNat, ir29, Try.underlying49, appendV_of ap_49, hA, hR]
def PS.new (n m : Nat) (g : Nat → Int) : PS := ⟨n, m, fun _ => 0, fun _ => 0, fun _ _ => 0, g, fun _ => 0⟩
theorem zc67_0 : ze_67.getD 0 undefV = .int .i64 0 := by kernel_rfl
theorem zc67_1 : ze_67.getD 1 undefV = .int .i64 0 := by kernel_rfl
def isZ8 : V → Bool
  | .int .u8 n => decide (n = 0)
  | _ => false
theorem isZ8_eq {v : V} (h : isZ8 v = true) : v = .int .u8 0 := by
  unfold isZ8 at h
  split at h
  · simp at h; rw [h]
  · cases h
theorem zc67_z : (List.range 256).all (fun j => isZ8 (ze_67.getD (2 + j) undefV)) = true := by kernel_rfl
theorem zc67_b {j : Nat} (hj : j < 256) : ze_67.getD (2 + j) undefV = .int .u8 0 := isZ8_eq (List.all_eq_true.1 zc67_z j (List.mem_range.2 hj))
theorem rep_get (n : Nat) (z : List V) (i : Nat) : (Blk.rep n z).get i = z.getD (i % z.length) undefV := by simp [Blk.get, layGet, Blk.rep, Tr.get_nil]
def newL (n k m : Nat) : PL := ⟨n, n + 2, n + 3, k, m, m, true, false, true⟩
theorem new_pool (h : Heap) (k m : Nat) {c : Blk} {o : Nat} {g : Nat → Int} (hk : 1 ≤ k ∧ k ≤ 256) (hm : 1 ≤ m ∧ m ≤ 8) (hc : ∀ i, i < m → c.get (o + i) = .int .i64 (g i)) :
    PoolAt (((((h.push (O.cells (Blk.rep (k * 258) ze_67) 67)).push (O.cells (Blk.of []) 3)).push (O.cells (Blk.of (c.gets o m)) 3)).push (O.cells (Blk.rep m [V.int IntKind.i64 0]) 3)).push
      (O.cells (Blk.of [V.slice (some (h.n, 0)) k k true, V.slice (some (h.n + 1 + 1, 0)) m m false, V.slice (some (h.n + 1 + 1 + 1, 0)) m m true]) 61)) (h.n + 4) (newL h.n k m) (PS.new k m g) := by
  refine ⟨by simp only [PS.new]; omega, ⟨Blk.of [V.slice (some (h.n, 0)) k k true, V.slice (some (h.n + 1 + 1, 0)) m m false, V.slice (some (h.n + 1 + 1 + 1, 0)) m m true], by simp -implicitDefEqProofs (disch := (first | omega | (simp -implicitDefEqProofs only [szs, ne_eq] <;> omega) | fail)) only [go_sem, Nat.reduceAdd, Nat.reduceSub, Nat.reduceMul, Nat.reduceLT, Nat.reduceMod, Nat.reduceDiv, Nat.reduceEqDiff, Nat.reduceBEq, Nat.reduceLeDiff, ↓reduceIte, reduceCtorEq, Int.reduceAdd, Int.reduceSub, Int.reduceLT, Int.reduceLE, Int.reduceBEq, Int.reduceEq, Int.reduceToNat], rfl, rfl, rfl, rfl⟩, ⟨Blk.rep (k * 258) ze_67, by simp -implicitDefEqProofs (disch := (first | omega | (simp -implicitDefEqProofs only [szs, ne_eq] <;> omega) | fail)) only [go_sem, Nat.reduceAdd, Nat.reduceSub, Nat.reduceMul, Nat.reduceLT, Nat.reduceMod, Nat.reduceDiv, Nat.reduceEqDiff, Nat.reduceBEq, Nat.reduceLeDiff, ↓reduceIte, reduceCtorEq, Int.reduceAdd, Int.reduceSub, Int.reduceLT, Int.reduceLE, Int.reduceBEq, Int.reduceEq, Int.reduceToNat, newL], rfl, rfl, ?_, ?_, ?_⟩, ⟨Blk.of (c.gets o m), by simp -implicitDefEqProofs (disch := (first | omega | (simp -implicitDefEqProofs only [szs, ne_eq] <;> omega) | fail)) only [go_sem, Nat.reduceAdd, Nat.reduceSub, Nat.reduceMul, Nat.reduceLT, Nat.reduceMod, Nat.reduceDiv, Nat.reduceEqDiff, Nat.reduceBEq, Nat.reduceLeDiff, ↓reduceIte, reduceCtorEq, Int.reduceAdd, Int.reduceSub, Int.reduceLT, Int.reduceLE, Int.reduceBEq, Int.reduceEq, Int.reduceToNat, newL], ?_, rfl, ?_⟩, ⟨Blk.rep m [V.int IntKind.i64 0], by simp -implicitDefEqProofs (disch := (first | omega | (simp -implicitDefEqProofs only [szs, ne_eq] <;> omega) | fail)) only [go_sem, Nat.reduceAdd, Nat.reduceSub, Nat.reduceMul, Nat.reduceLT, Nat.reduceMod, Nat.reduceDiv, Nat.reduceEqDiff, Nat.reduceBEq, Nat.reduceLeDiff, ↓reduceIte, reduceCtorEq, Int.reduceAdd, Int.reduceSub, Int.reduceLT, Int.reduceLE, Int.reduceBEq, Int.reduceEq, Int.reduceToNat, newL], ?_, rfl, ?_⟩, by simp [newL], by simp only [PS.new]; omega⟩
  · intro i hi
    rw [rep_get, show ze_67.length = 258 by kernel_rfl, show i * 258 % 258 = 0 by omega]; exact zc67_0
  · intro i hi
    rw [rep_get, show ze_67.length = 258 by kernel_rfl, show (i * 258 + 1) % 258 = 1 by omega]; exact zc67_1
  · intro i j hi hj
    rw [rep_get, show ze_67.length = 258 by kernel_rfl, show (i * 258 + 2 + j) % 258 = 2 + j by omega]; exact zc67_b hj
  · show m ≤ (c.gets o m).length
    rw [Blk.length_gets]; omega
  · intro i hi
    have hi : i < m := hi
    rw [Blk.get_of _ _ (by rw [Blk.length_gets]; omega), List.getD_eq_getElem?_getD, Blk.gets_get _ _ _ _ hi, Option.getD_some]; exact hc i hi
  · exact Nat.le_refl _
  · intro i hi
    rw [rep_get, show i % [V.int IntKind.i64 0].length = 0 by simp [Nat.mod_one]]; rfl
theorem new_ok {h : Heap} {R W : Set'} {n : Int} {v : V} {m : Nat} {g : Nat → Int} (hv : IntsV h v m g) (hR : ∀ b, R b) :
    SF Try.prog 10 [.int .i64 n, v] h R W fun r h' => r = .tuple [.ptr none, .int .i64 2] ∨ (r = .tuple [.ptr (some (h.n + 4, 0)), .int .i64 0] ∧ 1 ≤ n ∧ n ≤ 256 ∧ 1 ≤ m ∧ m ≤ 8 ∧ okQ m g ∧ sumTo g m ≤ n ∧ PoolAt h' (h.n + 4) (newL h.n n.toNat m) (PS.new n.toNat m g)) := by
  refine SF.go hm Try.func10 ir10_eq ?_
  have hlen : lenV Try.prog 49 v h = some (m, []) := by
    rcases hv.at' with ⟨rfl, rfl | ⟨a, rfl⟩⟩ | ⟨b, o, cap, c, ce, rfl, _⟩ <;> simp [lenV, Try.underlying49]
  have hml := hv.len
  by_cases hgood : (1 ≤ n ∧ n ≤ 256) ∧ 1 ≤ m ∧ m ≤ 8
  · obtain ⟨⟨hn1, hn2⟩, hm1, hm2⟩ := hgood
    obtain ⟨k, rfl⟩ := Int.eq_ofNat_of_zero_le (show 0 ≤ n by omega)
    simp -implicitDefEqProofs (disch := (first | omega | (simp -implicitDefEqProofs only [szs, ne_eq] <;> omega) | fail)) only [go_sem, Nat.reduceAdd, Nat.reduceSub, Nat.reduceMul, Nat.reduceLT, Nat.reduceMod, Nat.reduceDiv, Nat.reduceEqDiff, Nat.reduceBEq, Nat.reduceLeDiff, ↓reduceIte, reduceCtorEq, Int.reduceAdd, Int.reduceSub, Int.reduceLT, Int.reduceLE, Int.reduceBEq, Int.reduceEq, Int.reduceToNat, ir10, ↓hlen]
    refine new_loop (bad := false) hv (fun _ => .inr (hR _)) ?_ ?_ rfl rfl rfl rfl rfl rfl rfl rfl rfl
    · rintro ⟨⟨n', tr⟩, mks⟩ s g0 g1 g2 g3 g4 g5 hs
      simp only [Tm.get_mk] at g0 g1 g2 g3 g4 g5
      subst g0 g1
      obtain ⟨hs, hq⟩ := hs hm2
      by_cases hsn : (k : Int) < s
      · simp -implicitDefEqProofs (disch := (first | omega | (simp -implicitDefEqProofs only [szs, ne_eq] <;> omega) | fail)) only [go_sem, Nat.reduceAdd, Nat.reduceSub, Nat.reduceMul, Nat.reduceLT, Nat.reduceMod, Nat.reduceDiv, Nat.reduceEqDiff, Nat.reduceBEq, Nat.reduceLeDiff, ↓reduceIte, reduceCtorEq, Int.reduceAdd, Int.reduceSub, Int.reduceLT, Int.reduceLE, Int.reduceBEq, Int.reduceEq, Int.reduceToNat, g2, g3, g4, g5]
      · rcases hv.at' with ⟨h0, _⟩ | ⟨b, o, cap, c, ce, rfl, hb, hsz, hc⟩
        · omega
        simp -implicitDefEqProofs (disch := (first | omega | (simp -implicitDefEqProofs only [szs, ne_eq] <;> omega) | fail)) only [go_sem, Nat.reduceAdd, Nat.reduceSub, Nat.reduceMul, Nat.reduceLT, Nat.reduceMod, Nat.reduceDiv, Nat.reduceEqDiff, Nat.reduceBEq, Nat.reduceLeDiff, ↓reduceIte, reduceCtorEq, Int.reduceAdd, Int.reduceSub, Int.reduceLT, Int.reduceLE, Int.reduceBEq, Int.reduceEq, Int.reduceToNat, g2, g3, g4, g5, Try.underlying49]
        rw [if_pos (by omega)]
        have hlt := Heap.lt_of_get hb
        have hb' : (h.push (.cells (Blk.rep (k * 258) ze_67) 67)).get b = some (.cells c ce) := by rw [w_push_ne (show b ≠ h.n by omega)]; exact hb
        refine GCallD.of (R' := (· = b)) (W' := fun _ => False) (clone_ints (cap := cap) hb' hsz (by omega) hm2 rfl) ?_
        rintro v h' ⟨rfl, rfl⟩
        simp -implicitDefEqProofs (disch := (first | omega | (simp -implicitDefEqProofs only [szs, ne_eq] <;> omega) | fail)) only [go_sem, Nat.reduceAdd, Nat.reduceSub, Nat.reduceMul, Nat.reduceLT, Nat.reduceMod, Nat.reduceDiv, Nat.reduceEqDiff, Nat.reduceBEq, Nat.reduceLeDiff, ↓reduceIte, reduceCtorEq, Int.reduceAdd, Int.reduceSub, Int.reduceLT, Int.reduceLE, Int.reduceBEq, Int.reduceEq, Int.reduceToNat, g2, g3, g4, g5, Try.underlying49]
        rw [if_pos (by omega)]
        simp -implicitDefEqProofs (disch := (first | omega | (simp -implicitDefEqProofs only [szs, ne_eq] <;> omega) | fail)) only [go_sem, Nat.reduceAdd, Nat.reduceSub, Nat.reduceMul, Nat.reduceLT, Nat.reduceMod, Nat.reduceDiv, Nat.reduceEqDiff, Nat.reduceBEq, Nat.reduceLeDiff, ↓reduceIte, reduceCtorEq, Int.reduceAdd, Int.reduceSub, Int.reduceLT, Int.reduceLE, Int.reduceBEq, Int.reduceEq, Int.reduceToNat, g2, g3, g4, g5, Try.underlying49]
        simp only [List.not_mem_nil, or_false, false_or, and_false, not_false_eq_true, implies_true, and_true, true_and, false_implies, or_self]
        refine ⟨⟨fun _ _ => by omega, fun _ _ => by omega⟩, fun x _ e => .inr (hR x), .inr ⟨hn1, hn2, hm1, hm2, hq, by omega, new_pool _ _ _ (by omega) (by omega) (fun i hi => hc i hi)⟩⟩
    · rintro ⟨⟨n', tr⟩, mks⟩ g0 g1 g2
      simp only [Tm.get_mk] at g0 g1 g2
      subst g0
      simp -implicitDefEqProofs (disch := (first | omega | (simp -implicitDefEqProofs only [szs, ne_eq] <;> omega) | fail)) only [go_sem, Nat.reduceAdd, Nat.reduceSub, Nat.reduceMul, Nat.reduceLT, Nat.reduceMod, Nat.reduceDiv, Nat.reduceEqDiff, Nat.reduceBEq, Nat.reduceLeDiff, ↓reduceIte, reduceCtorEq, Int.reduceAdd, Int.reduceSub, Int.reduceLT, Int.reduceLE, Int.reduceBEq, Int.reduceEq, Int.reduceToNat, g1, g2]
  · have rest : ∀ {f : Fr}, f.mks = [] → f.tm.n = 57 → f.tm.get 0 = some (.int .i64 n) → f.tm.get 1 = some v → f.tm.get 6 = some (.int .i64 0) → f.tm.get 7 = some (.bool true) → f.tm.get 26 = some v → f.tm.get 27 = some (.int .i64 m) → f.tm.get 28 = some (.int .i64 0) → True := fun _ _ _ _ _ _ _ _ _ => trivial
    by_cases hn1 : n < 1
    · simp -implicitDefEqProofs (disch := (first | omega | (simp -implicitDefEqProofs only [szs, ne_eq] <;> omega) | fail)) only [go_sem, Nat.reduceAdd, Nat.reduceSub, Nat.reduceMul, Nat.reduceLT, Nat.reduceMod, Nat.reduceDiv, Nat.reduceEqDiff, Nat.reduceBEq, Nat.reduceLeDiff, ↓reduceIte, reduceCtorEq, Int.reduceAdd, Int.reduceSub, Int.reduceLT, Int.reduceLE, Int.reduceBEq, Int.reduceEq, Int.reduceToNat, ir10, ↓hlen]
      refine new_loop (bad := true) hv (fun _ => .inr (hR _)) ?_ ?_ rfl rfl rfl rfl rfl rfl rfl rfl rfl
      · rintro ⟨⟨n', tr⟩, mks⟩ s g0 g1 g2 g3 g4 g5 hs
        simp only [Tm.get_mk] at g0 g1 g2 g3 g4 g5
        subst g0 g1
        simp -implicitDefEqProofs (disch := (first | omega | (simp -implicitDefEqProofs only [szs, ne_eq] <;> omega) | fail)) only [go_sem, Nat.reduceAdd, Nat.reduceSub, Nat.reduceMul, Nat.reduceLT, Nat.reduceMod, Nat.reduceDiv, Nat.reduceEqDiff, Nat.reduceBEq, Nat.reduceLeDiff, ↓reduceIte, reduceCtorEq, Int.reduceAdd, Int.reduceSub, Int.reduceLT, Int.reduceLE, Int.reduceBEq, Int.reduceEq, Int.reduceToNat, g2, g3, g4, g5]
      · rintro ⟨⟨n', tr⟩, mks⟩ g0 g1 g2
        simp only [Tm.get_mk] at g0 g1 g2
        subst g0
        simp -implicitDefEqProofs (disch := (first | omega | (simp -implicitDefEqProofs only [szs, ne_eq] <;> omega) | fail)) only [go_sem, Nat.reduceAdd, Nat.reduceSub, Nat.reduceMul, Nat.reduceLT, Nat.reduceMod, Nat.reduceDiv, Nat.reduceEqDiff, Nat.reduceBEq, Nat.reduceLeDiff, ↓reduceIte, reduceCtorEq, Int.reduceAdd, Int.reduceSub, Int.reduceLT, Int.reduceLE, Int.reduceBEq, Int.reduceEq, Int.reduceToNat, g1, g2]
    · by_cases hn2 : 256 < n
      · simp -implicitDefEqProofs (disch := (first | omega | (simp -implicitDefEqProofs only [szs, ne_eq] <;> omega) | fail)) only [go_sem, Nat.reduceAdd, Nat.reduceSub, Nat.reduceMul, Nat.reduceLT, Nat.reduceMod, Nat.reduceDiv, Nat.reduceEqDiff, Nat.reduceBEq, Nat.reduceLeDiff, ↓reduceIte, reduceCtorEq, Int.reduceAdd, Int.reduceSub, Int.reduceLT, Int.reduceLE, Int.reduceBEq, Int.reduceEq, Int.reduceToNat, ir10, ↓hlen]
        refine new_loop (bad := true) hv (fun _ => .inr (hR _)) ?_ ?_ rfl rfl rfl rfl rfl rfl rfl rfl rfl
        · rintro ⟨⟨n', tr⟩, mks⟩ s g0 g1 g2 g3 g4 g5 hs
          simp only [Tm.get_mk] at g0 g1 g2 g3 g4 g5
          subst g0 g1
          simp -implicitDefEqProofs (disch := (first | omega | (simp -implicitDefEqProofs only [szs, ne_eq] <;> omega) | fail)) only [go_sem, Nat.reduceAdd, Nat.reduceSub, Nat.reduceMul, Nat.reduceLT, Nat.reduceMod, Nat.reduceDiv, Nat.reduceEqDiff, Nat.reduceBEq, Nat.reduceLeDiff, ↓reduceIte, reduceCtorEq, Int.reduceAdd, Int.reduceSub, Int.reduceLT, Int.reduceLE, Int.reduceBEq, Int.reduceEq, Int.reduceToNat, g2, g3, g4, g5]
        · rintro ⟨⟨n', tr⟩, mks⟩ g0 g1 g2
          simp only [Tm.get_mk] at g0 g1 g2
          subst g0
          simp -implicitDefEqProofs (disch := (first | omega | (simp -implicitDefEqProofs only [szs, ne_eq] <;> omega) | fail)) only [go_sem, Nat.reduceAdd, Nat.reduceSub, Nat.reduceMul, Nat.reduceLT, Nat.reduceMod, Nat.reduceDiv, Nat.reduceEqDiff, Nat.reduceBEq, Nat.reduceLeDiff, ↓reduceIte, reduceCtorEq, Int.reduceAdd, Int.reduceSub, Int.reduceLT, Int.reduceLE, Int.reduceBEq, Int.reduceEq, Int.reduceToNat, g1, g2]
      · by_cases hm1 : m < 1
        · simp -implicitDefEqProofs (disch := (first | omega | (simp -implicitDefEqProofs only [szs, ne_eq] <;> omega) | fail)) only [go_sem, Nat.reduceAdd, Nat.reduceSub, Nat.reduceMul, Nat.reduceLT, Nat.reduceMod, Nat.reduceDiv, Nat.reduceEqDiff, Nat.reduceBEq, Nat.reduceLeDiff, ↓reduceIte, reduceCtorEq, Int.reduceAdd, Int.reduceSub, Int.reduceLT, Int.reduceLE, Int.reduceBEq, Int.reduceEq, Int.reduceToNat, ir10, ↓hlen]
          refine new_loop (bad := true) hv (fun _ => .inr (hR _)) ?_ ?_ rfl rfl rfl rfl rfl rfl rfl rfl rfl
          · rintro ⟨⟨n', tr⟩, mks⟩ s g0 g1 g2 g3 g4 g5 hs
            simp only [Tm.get_mk] at g0 g1 g2 g3 g4 g5
            subst g0 g1
            simp -implicitDefEqProofs (disch := (first | omega | (simp -implicitDefEqProofs only [szs, ne_eq] <;> omega) | fail)) only [go_sem, Nat.reduceAdd, Nat.reduceSub, Nat.reduceMul, Nat.reduceLT, Nat.reduceMod, Nat.reduceDiv, Nat.reduceEqDiff, Nat.reduceBEq, Nat.reduceLeDiff, ↓reduceIte, reduceCtorEq, Int.reduceAdd, Int.reduceSub, Int.reduceLT, Int.reduceLE, Int.reduceBEq, Int.reduceEq, Int.reduceToNat, g2, g3, g4, g5]
          · rintro ⟨⟨n', tr⟩, mks⟩ g0 g1 g2
            simp only [Tm.get_mk] at g0 g1 g2
            subst g0
            simp -implicitDefEqProofs (disch := (first | omega | (simp -implicitDefEqProofs only [szs, ne_eq] <;> omega) | fail)) only [go_sem, Nat.reduceAdd, Nat.reduceSub, Nat.reduceMul, Nat.reduceLT, Nat.reduceMod, Nat.reduceDiv, Nat.reduceEqDiff, Nat.reduceBEq, Nat.reduceLeDiff, ↓reduceIte, reduceCtorEq, Int.reduceAdd, Int.reduceSub, Int.reduceLT, Int.reduceLE, Int.reduceBEq, Int.reduceEq, Int.reduceToNat, g1, g2]
        · have hm2 : 8 < m := by omega
          simp -implicitDefEqProofs (disch := (first | omega | (simp -implicitDefEqProofs only [szs, ne_eq] <;> omega) | fail)) only [go_sem, Nat.reduceAdd, Nat.reduceSub, Nat.reduceMul, Nat.reduceLT, Nat.reduceMod, Nat.reduceDiv, Nat.reduceEqDiff, Nat.reduceBEq, Nat.reduceLeDiff, ↓reduceIte, reduceCtorEq, Int.reduceAdd, Int.reduceSub, Int.reduceLT, Int.reduceLE, Int.reduceBEq, Int.reduceEq, Int.reduceToNat, ir10, ↓hlen]
          refine new_loop (bad := true) hv (fun _ => .inr (hR _)) ?_ ?_ rfl rfl rfl rfl rfl rfl rfl rfl rfl
          · rintro ⟨⟨n', tr⟩, mks⟩ s g0 g1 g2 g3 g4 g5 hs
            simp only [Tm.get_mk] at g0 g1 g2 g3 g4 g5
            subst g0 g1
            simp -implicitDefEqProofs (disch := (first | omega | (simp -implicitDefEqProofs only [szs, ne_eq] <;> omega) | fail)) only [go_sem, Nat.reduceAdd, Nat.reduceSub, Nat.reduceMul, Nat.reduceLT, Nat.reduceMod, Nat.reduceDiv, Nat.reduceEqDiff, Nat.reduceBEq, Nat.reduceLeDiff, ↓reduceIte, reduceCtorEq, Int.reduceAdd, Int.reduceSub, Int.reduceLT, Int.reduceLE, Int.reduceBEq, Int.reduceEq, Int.reduceToNat, g2, g3, g4, g5]
          · rintro ⟨⟨n', tr⟩, mks⟩ g0 g1 g2
            simp only [Tm.get_mk] at g0 g1 g2
            subst g0
            simp -implicitDefEqProofs (disch := (first | omega | (simp -implicitDefEqProofs only [szs, ne_eq] <;> omega) | fail)) only [go_sem, Nat.reduceAdd, Nat.reduceSub, Nat.reduceMul, Nat.reduceLT, Nat.reduceMod, Nat.reduceDiv, Nat.reduceEqDiff, Nat.reduceBEq, Nat.reduceLeDiff, ↓reduceIte, reduceCtorEq, Int.reduceAdd, Int.reduceSub, Int.reduceLT, Int.reduceLE, Int.reduceBEq, Int.reduceEq, Int.reduceToNat, g1, g2]
end Go.Proofs.Ytfgdpgagcnelpaa
