/- What a word says: isa.Of (printed by genD5.py). -/
import Derived.Test.YtmkdbninmimndaaD4
set_option linter.unusedVariables false
set_option maxRecDepth 100000
namespace Go.Proofs.Ytmkdbninmimndaa
open Go Go.Vm
def dW (w : Nat) : Nat := if fldD (formI (w % 256 : Nat)) = true then w / 4096 % 16 else 0
def aW (w : Nat) : Nat := if fldA (formI (w % 256 : Nat)) = true then w / 256 % 16 else 0
def bW (w : Nat) : Nat := if fldB (formI (w % 256 : Nat)) = true then w / 65536 else 0
def sx (h : Nat) : Int := if h < 32768 then h else (h : Int) - 65536
def mW (w : Nat) : Int := if fldM (formI (w % 256 : Nat)) = true then (if wideI (w % 256 : Nat) = true then ((w / 65536 : Nat) : Int) else sx (w / 65536)) else 0
def accW (w : Nat) : Bool := mayI (w % 256 : Nat) (dW w) (aW w) (bW w) (mW w) && decide (wordI (w % 256 : Nat) (dW w) (aW w) (bW w) (mW w) = w)
def decV (w : Nat) : V := if accW w = true then .tuple [insV (w % 256 : Nat) (dW w) (aW w) (bW w) (mW w), .int .i64 0] else .tuple [insV 0 0 0 0 0, .int .i64 4]
theorem decV_eq {w o d a b : Nat} {m : Int} (ho : o = w % 256) (hd : dW w = d) (ha : aW w = a) (hb : bW w = b) (hm' : mW w = m) : decV w = if (mayI o d a b m && decide (wordI o d a b m = w)) = true then .tuple [insV o d a b m, .int .i64 0] else .tuple [insV 0 0 0 0 0, .int .i64 4] := by
  unfold decV accW; rw [hd, ha, hb, hm', ← ho]
theorem n_and255 (w : Nat) : w &&& 255 = w % 256 := Nat.and_two_pow_sub_one_eq_mod w 8
theorem n_and15 (w : Nat) : w &&& 15 = w % 16 := Nat.and_two_pow_sub_one_eq_mod w 4
theorem i16_sx {h : Nat} (hh : h < 65536) : IntKind.i16.wrap (h : Int) = sx h := by
  simp only [IntKind.wrap, IntKind.signed, IntKind.bits, sx]
  simp
  split <;> split <;> omega
theorem sx_64 {h : Nat} (hh : h < 65536) : IntKind.i64.wrap (sx h) = sx h := by
  unfold sx
  split <;> exact IntWalk.i64_in _ (by omega)
set_option maxHeartbeats 40000000 in
theorem iof_0 {w : Nat} (hw : w < 4294967296) (h : Heap) (e : formI (w % 256 : Nat) = 0) : SF (Try.prog : MP) 53 [.int .u32 (w : Int)] h (fun _ => False) (fun _ => False) fun v h' => v = decV w := by
  obtain ⟨o, ho⟩ : ∃ o : Nat, o = w % 256 := ⟨_, rfl⟩
  obtain ⟨y12, h12⟩ : ∃ y : Nat, y = w / 4096 := ⟨_, rfl⟩
  obtain ⟨y8, h8⟩ : ∃ y : Nat, y = w / 256 := ⟨_, rfl⟩
  obtain ⟨y, h16⟩ : ∃ y : Nat, y = w / 65536 := ⟨_, rfl⟩
  obtain ⟨d, hd⟩ : ∃ y : Nat, y = y12 % 16 := ⟨_, rfl⟩
  obtain ⟨a, ha⟩ : ∃ y : Nat, y = y8 % 16 := ⟨_, rfl⟩
  have s0 : intBin .and .u32 (w : Int) 255 = some (.int .u32 (o : Int)) := n_and (y := 255) hw (by omega) ((n_and255 w).trans ho.symm)
  have s12 : intShift .shr .u32 (w : Int) 12 = some (.int .u32 (y12 : Int)) := n_shr 12 hw h12.symm
  have s8 : intShift .shr .u32 (w : Int) 8 = some (.int .u32 (y8 : Int)) := n_shr 8 hw h8.symm
  have s16 : intShift .shr .u32 (w : Int) 16 = some (.int .u32 (y : Int)) := n_shr 16 hw h16.symm
  have t12 : intBin .and .u32 (y12 : Int) 15 = some (.int .u32 (d : Int)) := n_and (y := 15) (by omega) (by omega) ((n_and15 _).trans hd.symm)
  have t8 : intBin .and .u32 (y8 : Int) 15 = some (.int .u32 (a : Int)) := n_and (y := 15) (by omega) (by omega) ((n_and15 _).trans ha.symm)
  have w0 : IntKind.i64.wrap (o : Int) = o := IntWalk.i64_in _ (by omega)
  have w1 : IntKind.i64.wrap (d : Int) = d := IntWalk.i64_in _ (by omega)
  have w2 : IntKind.i64.wrap (a : Int) = a := IntWalk.i64_in _ (by omega)
  have w3 : IntKind.i64.wrap (y : Int) = y := IntWalk.i64_in _ (by omega)
  have w4 : IntKind.i16.wrap (y : Int) = sx y := i16_sx (by omega)
  have w5 : IntKind.i64.wrap (sx y) = sx y := sx_64 (by omega)
  rw [← ho] at e
  refine SF.go hm Try.func53 ir53_eq ?_
  simp -implicitDefEqProofs (disch := (first | omega | (simp -implicitDefEqProofs only [szs, ne_eq] <;> omega) | fail)) only [go_sem, seval, ↓reduceIte, reduceCtorEq, ir53, undefV, ↓s0, ↓cv25_48, c25_48, w0]
  refine GCall.of (form_ok _ _ _ _) ?_
  rintro r g ⟨rfl, rfl⟩
  simp -implicitDefEqProofs (disch := (first | omega | (simp -implicitDefEqProofs only [szs, ne_eq] <;> omega) | fail)) only [go_sem, seval, ↓reduceIte, reduceCtorEq]
  refine GCall.of (((named_ok _ _ (fun _ => False) (fun _ => False)).kept).foot (fun _ h => h.elim) (fun _ h => h.elim)) ?_
  rintro r g ⟨rfl, vf⟩
  have hb := (vf.get (h.n + 1) (by simp) (by simp))
  have hz := (vf.get h.n (by simp; omega) (by simp))
  simp (disch := first | rfl | ((try simp only [Heap.n_push, Heap.n_set]); omega)) only [w_push_ne, w_push_eq, w_set_eq, w_set_ne] at hb hz
  have hn := vf.n
  simp at hn
  have n0 : h.n ≤ g.n := by omega
  have n1 : h.n < g.n := by omega
  rw [e]
  simp only [show fldD 0 = false from rfl, show fldA 0 = false from rfl, show fldB 0 = false from rfl, show fldM 0 = false from rfl]
  have hm1 : mW w = 0 := by
    unfold mW; rw [← ho, e]
    simp [fldM]
  have hd1 : dW w = 0 := by unfold dW; rw [← ho, e]; simp [fldD]
  have ha1 : aW w = 0 := by unfold aW; rw [← ho, e]; simp [fldA]
  have hb1 : bW w = 0 := by unfold bW; rw [← ho, e]; simp [fldB]
  rw [decV_eq ho hd1 ha1 hb1 hm1]
  simp -implicitDefEqProofs (disch := (first | omega | (simp -implicitDefEqProofs only [szs, ne_eq] <;> omega) | fail)) only [go_sem, seval, ↓reduceIte, reduceCtorEq, undefV, hb, n0]
  refine GCall.of (((iword_ok _ _ _ _ _ _).kept).foot (fun _ h => h.elim) (fun _ h => h.elim)) ?_
  rintro r g1 ⟨rfl, vf1⟩
  have hc := (vf1.get (h.n + 1) (by simp; omega) (by simp))
  have hy := (vf1.get h.n (by simp; omega) (by simp))
  simp (disch := first | rfl | ((try simp only [Heap.n_push, Heap.n_set]); omega)) only [w_push_ne, w_set_ne, hb, hz] at hc hy
  have hn1 := vf1.n
  simp at hn1
  have m0 : h.n ≤ g1.n := by omega
  have m1 : h.n < g1.n := by omega
  cases hmi : mayI o 0 0 0 0 with
  | false => simp -implicitDefEqProofs (disch := (first | omega | (simp -implicitDefEqProofs only [szs, ne_eq] <;> omega) | fail)) only [go_sem, seval, ↓reduceIte, reduceCtorEq, undefV, hy]; simp [hmi]
  | true =>
    by_cases hwd : wordI o 0 0 0 0 = (w : Int)
    · simp -implicitDefEqProofs (disch := (first | omega | (simp -implicitDefEqProofs only [szs, ne_eq] <;> omega) | fail)) only [go_sem, seval, ↓reduceIte, reduceCtorEq, undefV, hc, hy, hwd]; simp [hmi]
    · simp -implicitDefEqProofs (disch := (first | omega | (simp -implicitDefEqProofs only [szs, ne_eq] <;> omega) | fail)) only [go_sem, seval, ↓reduceIte, reduceCtorEq, undefV, hy, hwd]; simp [hmi]
set_option maxHeartbeats 40000000 in
theorem iof_1 {w : Nat} (hw : w < 4294967296) (h : Heap) (e : formI (w % 256 : Nat) = 1) : SF (Try.prog : MP) 53 [.int .u32 (w : Int)] h (fun _ => False) (fun _ => False) fun v h' => v = decV w := by
  obtain ⟨o, ho⟩ : ∃ o : Nat, o = w % 256 := ⟨_, rfl⟩
  obtain ⟨y12, h12⟩ : ∃ y : Nat, y = w / 4096 := ⟨_, rfl⟩
  obtain ⟨y8, h8⟩ : ∃ y : Nat, y = w / 256 := ⟨_, rfl⟩
  obtain ⟨y, h16⟩ : ∃ y : Nat, y = w / 65536 := ⟨_, rfl⟩
  obtain ⟨d, hd⟩ : ∃ y : Nat, y = y12 % 16 := ⟨_, rfl⟩
  obtain ⟨a, ha⟩ : ∃ y : Nat, y = y8 % 16 := ⟨_, rfl⟩
  have s0 : intBin .and .u32 (w : Int) 255 = some (.int .u32 (o : Int)) := n_and (y := 255) hw (by omega) ((n_and255 w).trans ho.symm)
  have s12 : intShift .shr .u32 (w : Int) 12 = some (.int .u32 (y12 : Int)) := n_shr 12 hw h12.symm
  have s8 : intShift .shr .u32 (w : Int) 8 = some (.int .u32 (y8 : Int)) := n_shr 8 hw h8.symm
  have s16 : intShift .shr .u32 (w : Int) 16 = some (.int .u32 (y : Int)) := n_shr 16 hw h16.symm
  have t12 : intBin .and .u32 (y12 : Int) 15 = some (.int .u32 (d : Int)) := n_and (y := 15) (by omega) (by omega) ((n_and15 _).trans hd.symm)
  have t8 : intBin .and .u32 (y8 : Int) 15 = some (.int .u32 (a : Int)) := n_and (y := 15) (by omega) (by omega) ((n_and15 _).trans ha.symm)
  have w0 : IntKind.i64.wrap (o : Int) = o := IntWalk.i64_in _ (by omega)
  have w1 : IntKind.i64.wrap (d : Int) = d := IntWalk.i64_in _ (by omega)
  have w2 : IntKind.i64.wrap (a : Int) = a := IntWalk.i64_in _ (by omega)
  have w3 : IntKind.i64.wrap (y : Int) = y := IntWalk.i64_in _ (by omega)
  have w4 : IntKind.i16.wrap (y : Int) = sx y := i16_sx (by omega)
  have w5 : IntKind.i64.wrap (sx y) = sx y := sx_64 (by omega)
  rw [← ho] at e
  refine SF.go hm Try.func53 ir53_eq ?_
  simp -implicitDefEqProofs (disch := (first | omega | (simp -implicitDefEqProofs only [szs, ne_eq] <;> omega) | fail)) only [go_sem, seval, ↓reduceIte, reduceCtorEq, ir53, undefV, ↓s0, ↓cv25_48, c25_48, w0]
  refine GCall.of (form_ok _ _ _ _) ?_
  rintro r g ⟨rfl, rfl⟩
  simp -implicitDefEqProofs (disch := (first | omega | (simp -implicitDefEqProofs only [szs, ne_eq] <;> omega) | fail)) only [go_sem, seval, ↓reduceIte, reduceCtorEq]
  refine GCall.of (((named_ok _ _ (fun _ => False) (fun _ => False)).kept).foot (fun _ h => h.elim) (fun _ h => h.elim)) ?_
  rintro r g ⟨rfl, vf⟩
  have hb := (vf.get (h.n + 1) (by simp) (by simp))
  have hz := (vf.get h.n (by simp; omega) (by simp))
  simp (disch := first | rfl | ((try simp only [Heap.n_push, Heap.n_set]); omega)) only [w_push_ne, w_push_eq, w_set_eq, w_set_ne] at hb hz
  have hn := vf.n
  simp at hn
  have n0 : h.n ≤ g.n := by omega
  have n1 : h.n < g.n := by omega
  rw [e]
  simp only [show fldD 1 = false from rfl, show fldA 1 = false from rfl, show fldB 1 = false from rfl, show fldM 1 = true from rfl]
  cases hwi : wideI o
  rotate_left
  · skip
    have hm1 : mW w = (y : Int) := by
      unfold mW; rw [← ho, e, hwi]
      simp [fldM, ← h16]
    have hd1 : dW w = 0 := by unfold dW; rw [← ho, e]; simp [fldD]
    have ha1 : aW w = 0 := by unfold aW; rw [← ho, e]; simp [fldA]
    have hb1 : bW w = 0 := by unfold bW; rw [← ho, e]; simp [fldB]
    rw [decV_eq ho hd1 ha1 hb1 hm1]
    simp -implicitDefEqProofs (disch := (first | omega | (simp -implicitDefEqProofs only [szs, ne_eq] <;> omega) | fail)) only [go_sem, seval, ↓reduceIte, reduceCtorEq, undefV, hb, n0, ↓s16, ↓cv25_113, c25_113, ↓cv113_3, c113_3, w4, w5]
    refine GCall.of (wide_ok _ _ _ _) ?_
    rintro r g1 ⟨rfl, rfl⟩
    rw [hwi]
    simp -implicitDefEqProofs (disch := (first | omega | (simp -implicitDefEqProofs only [szs, ne_eq] <;> omega) | fail)) only [go_sem, seval, ↓reduceIte, reduceCtorEq, undefV, ↓s16, ↓cvC, cC, w3]
    refine GCall.of (((iword_ok _ _ _ _ _ _).kept).foot (fun _ h => h.elim) (fun _ h => h.elim)) ?_
    rintro r g1 ⟨rfl, vf1⟩
    have hc := (vf1.get (h.n + 1) (by simp; omega) (by simp))
    have hy := (vf1.get h.n (by simp; omega) (by simp))
    simp (disch := first | rfl | ((try simp only [Heap.n_push, Heap.n_set]); omega)) only [w_push_ne, w_set_eq, w_set_ne, hz] at hc hy
    have hn1 := vf1.n
    simp at hn1
    have m0 : h.n ≤ g1.n := by omega
    have m1 : h.n < g1.n := by omega
    cases hmi : mayI o 0 0 0 (y : Int) with
    | false => simp -implicitDefEqProofs (disch := (first | omega | (simp -implicitDefEqProofs only [szs, ne_eq] <;> omega) | fail)) only [go_sem, seval, ↓reduceIte, reduceCtorEq, undefV, hy]; simp [hmi]
    | true =>
      by_cases hwd : wordI o 0 0 0 (y : Int) = (w : Int)
      · simp -implicitDefEqProofs (disch := (first | omega | (simp -implicitDefEqProofs only [szs, ne_eq] <;> omega) | fail)) only [go_sem, seval, ↓reduceIte, reduceCtorEq, undefV, hc, hy, hwd]; simp [hmi]
      · simp -implicitDefEqProofs (disch := (first | omega | (simp -implicitDefEqProofs only [szs, ne_eq] <;> omega) | fail)) only [go_sem, seval, ↓reduceIte, reduceCtorEq, undefV, hy, hwd]; simp [hmi]
  · skip
    have hm1 : mW w = sx y := by
      unfold mW; rw [← ho, e, hwi]
      simp [fldM, ← h16]
    have hd1 : dW w = 0 := by unfold dW; rw [← ho, e]; simp [fldD]
    have ha1 : aW w = 0 := by unfold aW; rw [← ho, e]; simp [fldA]
    have hb1 : bW w = 0 := by unfold bW; rw [← ho, e]; simp [fldB]
    rw [decV_eq ho hd1 ha1 hb1 hm1]
    simp -implicitDefEqProofs (disch := (first | omega | (simp -implicitDefEqProofs only [szs, ne_eq] <;> omega) | fail)) only [go_sem, seval, ↓reduceIte, reduceCtorEq, undefV, hb, n0, ↓s16, ↓cv25_113, c25_113, ↓cv113_3, c113_3, w4, w5]
    refine GCall.of (wide_ok _ _ _ _) ?_
    rintro r g1 ⟨rfl, rfl⟩
    rw [hwi]
    simp -implicitDefEqProofs (disch := (first | omega | (simp -implicitDefEqProofs only [szs, ne_eq] <;> omega) | fail)) only [go_sem, seval, ↓reduceIte, reduceCtorEq]
    refine GCall.of (((iword_ok _ _ _ _ _ _).kept).foot (fun _ h => h.elim) (fun _ h => h.elim)) ?_
    rintro r g1 ⟨rfl, vf1⟩
    have hc := (vf1.get (h.n + 1) (by simp; omega) (by simp))
    have hy := (vf1.get h.n (by simp; omega) (by simp))
    simp (disch := first | rfl | ((try simp only [Heap.n_push, Heap.n_set]); omega)) only [w_push_ne, w_set_eq, w_set_ne, hz] at hc hy
    have hn1 := vf1.n
    simp at hn1
    have m0 : h.n ≤ g1.n := by omega
    have m1 : h.n < g1.n := by omega
    cases hmi : mayI o 0 0 0 (sx y) with
    | false => simp -implicitDefEqProofs (disch := (first | omega | (simp -implicitDefEqProofs only [szs, ne_eq] <;> omega) | fail)) only [go_sem, seval, ↓reduceIte, reduceCtorEq, undefV, hy]; simp [hmi]
    | true =>
      by_cases hwd : wordI o 0 0 0 (sx y) = (w : Int)
      · simp -implicitDefEqProofs (disch := (first | omega | (simp -implicitDefEqProofs only [szs, ne_eq] <;> omega) | fail)) only [go_sem, seval, ↓reduceIte, reduceCtorEq, undefV, hc, hy, hwd]; simp [hmi]
      · simp -implicitDefEqProofs (disch := (first | omega | (simp -implicitDefEqProofs only [szs, ne_eq] <;> omega) | fail)) only [go_sem, seval, ↓reduceIte, reduceCtorEq, undefV, hy, hwd]; simp [hmi]
set_option maxHeartbeats 40000000 in
theorem iof_2 {w : Nat} (hw : w < 4294967296) (h : Heap) (e : formI (w % 256 : Nat) = 2) : SF (Try.prog : MP) 53 [.int .u32 (w : Int)] h (fun _ => False) (fun _ => False) fun v h' => v = decV w := by
  obtain ⟨o, ho⟩ : ∃ o : Nat, o = w % 256 := ⟨_, rfl⟩
  obtain ⟨y12, h12⟩ : ∃ y : Nat, y = w / 4096 := ⟨_, rfl⟩
  obtain ⟨y8, h8⟩ : ∃ y : Nat, y = w / 256 := ⟨_, rfl⟩
  obtain ⟨y, h16⟩ : ∃ y : Nat, y = w / 65536 := ⟨_, rfl⟩
  obtain ⟨d, hd⟩ : ∃ y : Nat, y = y12 % 16 := ⟨_, rfl⟩
  obtain ⟨a, ha⟩ : ∃ y : Nat, y = y8 % 16 := ⟨_, rfl⟩
  have s0 : intBin .and .u32 (w : Int) 255 = some (.int .u32 (o : Int)) := n_and (y := 255) hw (by omega) ((n_and255 w).trans ho.symm)
  have s12 : intShift .shr .u32 (w : Int) 12 = some (.int .u32 (y12 : Int)) := n_shr 12 hw h12.symm
  have s8 : intShift .shr .u32 (w : Int) 8 = some (.int .u32 (y8 : Int)) := n_shr 8 hw h8.symm
  have s16 : intShift .shr .u32 (w : Int) 16 = some (.int .u32 (y : Int)) := n_shr 16 hw h16.symm
  have t12 : intBin .and .u32 (y12 : Int) 15 = some (.int .u32 (d : Int)) := n_and (y := 15) (by omega) (by omega) ((n_and15 _).trans hd.symm)
  have t8 : intBin .and .u32 (y8 : Int) 15 = some (.int .u32 (a : Int)) := n_and (y := 15) (by omega) (by omega) ((n_and15 _).trans ha.symm)
  have w0 : IntKind.i64.wrap (o : Int) = o := IntWalk.i64_in _ (by omega)
  have w1 : IntKind.i64.wrap (d : Int) = d := IntWalk.i64_in _ (by omega)
  have w2 : IntKind.i64.wrap (a : Int) = a := IntWalk.i64_in _ (by omega)
  have w3 : IntKind.i64.wrap (y : Int) = y := IntWalk.i64_in _ (by omega)
  have w4 : IntKind.i16.wrap (y : Int) = sx y := i16_sx (by omega)
  have w5 : IntKind.i64.wrap (sx y) = sx y := sx_64 (by omega)
  rw [← ho] at e
  refine SF.go hm Try.func53 ir53_eq ?_
  simp -implicitDefEqProofs (disch := (first | omega | (simp -implicitDefEqProofs only [szs, ne_eq] <;> omega) | fail)) only [go_sem, seval, ↓reduceIte, reduceCtorEq, ir53, undefV, ↓s0, ↓cv25_48, c25_48, w0]
  refine GCall.of (form_ok _ _ _ _) ?_
  rintro r g ⟨rfl, rfl⟩
  simp -implicitDefEqProofs (disch := (first | omega | (simp -implicitDefEqProofs only [szs, ne_eq] <;> omega) | fail)) only [go_sem, seval, ↓reduceIte, reduceCtorEq]
  refine GCall.of (((named_ok _ _ (fun _ => False) (fun _ => False)).kept).foot (fun _ h => h.elim) (fun _ h => h.elim)) ?_
  rintro r g ⟨rfl, vf⟩
  have hb := (vf.get (h.n + 1) (by simp) (by simp))
  have hz := (vf.get h.n (by simp; omega) (by simp))
  simp (disch := first | rfl | ((try simp only [Heap.n_push, Heap.n_set]); omega)) only [w_push_ne, w_push_eq, w_set_eq, w_set_ne] at hb hz
  have hn := vf.n
  simp at hn
  have n0 : h.n ≤ g.n := by omega
  have n1 : h.n < g.n := by omega
  rw [e]
  simp only [show fldD 2 = false from rfl, show fldA 2 = true from rfl, show fldB 2 = false from rfl, show fldM 2 = false from rfl]
  have hm1 : mW w = 0 := by
    unfold mW; rw [← ho, e]
    simp [fldM]
  have hd1 : dW w = 0 := by unfold dW; rw [← ho, e]; simp [fldD]
  have ha1 : aW w = a := by unfold aW; rw [← ho, e]; simp [fldA, ha, h8]
  have hb1 : bW w = 0 := by unfold bW; rw [← ho, e]; simp [fldB]
  rw [decV_eq ho hd1 ha1 hb1 hm1]
  simp -implicitDefEqProofs (disch := (first | omega | (simp -implicitDefEqProofs only [szs, ne_eq] <;> omega) | fail)) only [go_sem, seval, ↓reduceIte, reduceCtorEq, undefV, hb, n0, ↓s8, ↓t8, ↓cvC, cC, w2]
  refine GCall.of (((iword_ok _ _ _ _ _ _).kept).foot (fun _ h => h.elim) (fun _ h => h.elim)) ?_
  rintro r g1 ⟨rfl, vf1⟩
  have hc := (vf1.get (h.n + 1) (by simp; omega) (by simp))
  have hy := (vf1.get h.n (by simp; omega) (by simp))
  simp (disch := first | rfl | ((try simp only [Heap.n_push, Heap.n_set]); omega)) only [w_push_ne, w_set_eq, w_set_ne, hz] at hc hy
  have hn1 := vf1.n
  simp at hn1
  have m0 : h.n ≤ g1.n := by omega
  have m1 : h.n < g1.n := by omega
  cases hmi : mayI o 0 a 0 0 with
  | false => simp -implicitDefEqProofs (disch := (first | omega | (simp -implicitDefEqProofs only [szs, ne_eq] <;> omega) | fail)) only [go_sem, seval, ↓reduceIte, reduceCtorEq, undefV, hy]; simp [hmi]
  | true =>
    by_cases hwd : wordI o 0 a 0 0 = (w : Int)
    · simp -implicitDefEqProofs (disch := (first | omega | (simp -implicitDefEqProofs only [szs, ne_eq] <;> omega) | fail)) only [go_sem, seval, ↓reduceIte, reduceCtorEq, undefV, hc, hy, hwd]; simp [hmi]
    · simp -implicitDefEqProofs (disch := (first | omega | (simp -implicitDefEqProofs only [szs, ne_eq] <;> omega) | fail)) only [go_sem, seval, ↓reduceIte, reduceCtorEq, undefV, hy, hwd]; simp [hmi]
set_option maxHeartbeats 40000000 in
theorem iof_3 {w : Nat} (hw : w < 4294967296) (h : Heap) (e : formI (w % 256 : Nat) = 3) : SF (Try.prog : MP) 53 [.int .u32 (w : Int)] h (fun _ => False) (fun _ => False) fun v h' => v = decV w := by
  obtain ⟨o, ho⟩ : ∃ o : Nat, o = w % 256 := ⟨_, rfl⟩
  obtain ⟨y12, h12⟩ : ∃ y : Nat, y = w / 4096 := ⟨_, rfl⟩
  obtain ⟨y8, h8⟩ : ∃ y : Nat, y = w / 256 := ⟨_, rfl⟩
  obtain ⟨y, h16⟩ : ∃ y : Nat, y = w / 65536 := ⟨_, rfl⟩
  obtain ⟨d, hd⟩ : ∃ y : Nat, y = y12 % 16 := ⟨_, rfl⟩
  obtain ⟨a, ha⟩ : ∃ y : Nat, y = y8 % 16 := ⟨_, rfl⟩
  have s0 : intBin .and .u32 (w : Int) 255 = some (.int .u32 (o : Int)) := n_and (y := 255) hw (by omega) ((n_and255 w).trans ho.symm)
  have s12 : intShift .shr .u32 (w : Int) 12 = some (.int .u32 (y12 : Int)) := n_shr 12 hw h12.symm
  have s8 : intShift .shr .u32 (w : Int) 8 = some (.int .u32 (y8 : Int)) := n_shr 8 hw h8.symm
  have s16 : intShift .shr .u32 (w : Int) 16 = some (.int .u32 (y : Int)) := n_shr 16 hw h16.symm
  have t12 : intBin .and .u32 (y12 : Int) 15 = some (.int .u32 (d : Int)) := n_and (y := 15) (by omega) (by omega) ((n_and15 _).trans hd.symm)
  have t8 : intBin .and .u32 (y8 : Int) 15 = some (.int .u32 (a : Int)) := n_and (y := 15) (by omega) (by omega) ((n_and15 _).trans ha.symm)
  have w0 : IntKind.i64.wrap (o : Int) = o := IntWalk.i64_in _ (by omega)
  have w1 : IntKind.i64.wrap (d : Int) = d := IntWalk.i64_in _ (by omega)
  have w2 : IntKind.i64.wrap (a : Int) = a := IntWalk.i64_in _ (by omega)
  have w3 : IntKind.i64.wrap (y : Int) = y := IntWalk.i64_in _ (by omega)
  have w4 : IntKind.i16.wrap (y : Int) = sx y := i16_sx (by omega)
  have w5 : IntKind.i64.wrap (sx y) = sx y := sx_64 (by omega)
  rw [← ho] at e
  refine SF.go hm Try.func53 ir53_eq ?_
  simp -implicitDefEqProofs (disch := (first | omega | (simp -implicitDefEqProofs only [szs, ne_eq] <;> omega) | fail)) only [go_sem, seval, ↓reduceIte, reduceCtorEq, ir53, undefV, ↓s0, ↓cv25_48, c25_48, w0]
  refine GCall.of (form_ok _ _ _ _) ?_
  rintro r g ⟨rfl, rfl⟩
  simp -implicitDefEqProofs (disch := (first | omega | (simp -implicitDefEqProofs only [szs, ne_eq] <;> omega) | fail)) only [go_sem, seval, ↓reduceIte, reduceCtorEq]
  refine GCall.of (((named_ok _ _ (fun _ => False) (fun _ => False)).kept).foot (fun _ h => h.elim) (fun _ h => h.elim)) ?_
  rintro r g ⟨rfl, vf⟩
  have hb := (vf.get (h.n + 1) (by simp) (by simp))
  have hz := (vf.get h.n (by simp; omega) (by simp))
  simp (disch := first | rfl | ((try simp only [Heap.n_push, Heap.n_set]); omega)) only [w_push_ne, w_push_eq, w_set_eq, w_set_ne] at hb hz
  have hn := vf.n
  simp at hn
  have n0 : h.n ≤ g.n := by omega
  have n1 : h.n < g.n := by omega
  rw [e]
  simp only [show fldD 3 = true from rfl, show fldA 3 = false from rfl, show fldB 3 = false from rfl, show fldM 3 = true from rfl]
  cases hwi : wideI o
  rotate_left
  · skip
    have hm1 : mW w = (y : Int) := by
      unfold mW; rw [← ho, e, hwi]
      simp [fldM, ← h16]
    have hd1 : dW w = d := by unfold dW; rw [← ho, e]; simp [fldD, hd, h12]
    have ha1 : aW w = 0 := by unfold aW; rw [← ho, e]; simp [fldA]
    have hb1 : bW w = 0 := by unfold bW; rw [← ho, e]; simp [fldB]
    rw [decV_eq ho hd1 ha1 hb1 hm1]
    simp -implicitDefEqProofs (disch := (first | omega | (simp -implicitDefEqProofs only [szs, ne_eq] <;> omega) | fail)) only [go_sem, seval, ↓reduceIte, reduceCtorEq, undefV, hb, n0, ↓s12, ↓s16, ↓t12, ↓cvC, cC, ↓cv25_113, c25_113, ↓cv113_3, c113_3, w1, w4, w5]
    refine GCall.of (wide_ok _ _ _ _) ?_
    rintro r g1 ⟨rfl, rfl⟩
    rw [hwi]
    simp -implicitDefEqProofs (disch := (first | omega | (simp -implicitDefEqProofs only [szs, ne_eq] <;> omega) | fail)) only [go_sem, seval, ↓reduceIte, reduceCtorEq, undefV, ↓s16, ↓cvC, cC, w3]
    refine GCall.of (((iword_ok _ _ _ _ _ _).kept).foot (fun _ h => h.elim) (fun _ h => h.elim)) ?_
    rintro r g1 ⟨rfl, vf1⟩
    have hc := (vf1.get (h.n + 1) (by simp; omega) (by simp))
    have hy := (vf1.get h.n (by simp; omega) (by simp))
    simp (disch := first | rfl | ((try simp only [Heap.n_push, Heap.n_set]); omega)) only [w_push_ne, w_set_eq, w_set_ne, hz] at hc hy
    have hn1 := vf1.n
    simp at hn1
    have m0 : h.n ≤ g1.n := by omega
    have m1 : h.n < g1.n := by omega
    cases hmi : mayI o d 0 0 (y : Int) with
    | false => simp -implicitDefEqProofs (disch := (first | omega | (simp -implicitDefEqProofs only [szs, ne_eq] <;> omega) | fail)) only [go_sem, seval, ↓reduceIte, reduceCtorEq, undefV, hy]; simp [hmi]
    | true =>
      by_cases hwd : wordI o d 0 0 (y : Int) = (w : Int)
      · simp -implicitDefEqProofs (disch := (first | omega | (simp -implicitDefEqProofs only [szs, ne_eq] <;> omega) | fail)) only [go_sem, seval, ↓reduceIte, reduceCtorEq, undefV, hc, hy, hwd]; simp [hmi]
      · simp -implicitDefEqProofs (disch := (first | omega | (simp -implicitDefEqProofs only [szs, ne_eq] <;> omega) | fail)) only [go_sem, seval, ↓reduceIte, reduceCtorEq, undefV, hy, hwd]; simp [hmi]
  · skip
    have hm1 : mW w = sx y := by
      unfold mW; rw [← ho, e, hwi]
      simp [fldM, ← h16]
    have hd1 : dW w = d := by unfold dW; rw [← ho, e]; simp [fldD, hd, h12]
    have ha1 : aW w = 0 := by unfold aW; rw [← ho, e]; simp [fldA]
    have hb1 : bW w = 0 := by unfold bW; rw [← ho, e]; simp [fldB]
    rw [decV_eq ho hd1 ha1 hb1 hm1]
    simp -implicitDefEqProofs (disch := (first | omega | (simp -implicitDefEqProofs only [szs, ne_eq] <;> omega) | fail)) only [go_sem, seval, ↓reduceIte, reduceCtorEq, undefV, hb, n0, ↓s12, ↓s16, ↓t12, ↓cvC, cC, ↓cv25_113, c25_113, ↓cv113_3, c113_3, w1, w4, w5]
    refine GCall.of (wide_ok _ _ _ _) ?_
    rintro r g1 ⟨rfl, rfl⟩
    rw [hwi]
    simp -implicitDefEqProofs (disch := (first | omega | (simp -implicitDefEqProofs only [szs, ne_eq] <;> omega) | fail)) only [go_sem, seval, ↓reduceIte, reduceCtorEq]
    refine GCall.of (((iword_ok _ _ _ _ _ _).kept).foot (fun _ h => h.elim) (fun _ h => h.elim)) ?_
    rintro r g1 ⟨rfl, vf1⟩
    have hc := (vf1.get (h.n + 1) (by simp; omega) (by simp))
    have hy := (vf1.get h.n (by simp; omega) (by simp))
    simp (disch := first | rfl | ((try simp only [Heap.n_push, Heap.n_set]); omega)) only [w_push_ne, w_set_eq, w_set_ne, hz] at hc hy
    have hn1 := vf1.n
    simp at hn1
    have m0 : h.n ≤ g1.n := by omega
    have m1 : h.n < g1.n := by omega
    cases hmi : mayI o d 0 0 (sx y) with
    | false => simp -implicitDefEqProofs (disch := (first | omega | (simp -implicitDefEqProofs only [szs, ne_eq] <;> omega) | fail)) only [go_sem, seval, ↓reduceIte, reduceCtorEq, undefV, hy]; simp [hmi]
    | true =>
      by_cases hwd : wordI o d 0 0 (sx y) = (w : Int)
      · simp -implicitDefEqProofs (disch := (first | omega | (simp -implicitDefEqProofs only [szs, ne_eq] <;> omega) | fail)) only [go_sem, seval, ↓reduceIte, reduceCtorEq, undefV, hc, hy, hwd]; simp [hmi]
      · simp -implicitDefEqProofs (disch := (first | omega | (simp -implicitDefEqProofs only [szs, ne_eq] <;> omega) | fail)) only [go_sem, seval, ↓reduceIte, reduceCtorEq, undefV, hy, hwd]; simp [hmi]
set_option maxHeartbeats 40000000 in
theorem iof_4 {w : Nat} (hw : w < 4294967296) (h : Heap) (e : formI (w % 256 : Nat) = 4) : SF (Try.prog : MP) 53 [.int .u32 (w : Int)] h (fun _ => False) (fun _ => False) fun v h' => v = decV w := by
  obtain ⟨o, ho⟩ : ∃ o : Nat, o = w % 256 := ⟨_, rfl⟩
  obtain ⟨y12, h12⟩ : ∃ y : Nat, y = w / 4096 := ⟨_, rfl⟩
  obtain ⟨y8, h8⟩ : ∃ y : Nat, y = w / 256 := ⟨_, rfl⟩
  obtain ⟨y, h16⟩ : ∃ y : Nat, y = w / 65536 := ⟨_, rfl⟩
  obtain ⟨d, hd⟩ : ∃ y : Nat, y = y12 % 16 := ⟨_, rfl⟩
  obtain ⟨a, ha⟩ : ∃ y : Nat, y = y8 % 16 := ⟨_, rfl⟩
  have s0 : intBin .and .u32 (w : Int) 255 = some (.int .u32 (o : Int)) := n_and (y := 255) hw (by omega) ((n_and255 w).trans ho.symm)
  have s12 : intShift .shr .u32 (w : Int) 12 = some (.int .u32 (y12 : Int)) := n_shr 12 hw h12.symm
  have s8 : intShift .shr .u32 (w : Int) 8 = some (.int .u32 (y8 : Int)) := n_shr 8 hw h8.symm
  have s16 : intShift .shr .u32 (w : Int) 16 = some (.int .u32 (y : Int)) := n_shr 16 hw h16.symm
  have t12 : intBin .and .u32 (y12 : Int) 15 = some (.int .u32 (d : Int)) := n_and (y := 15) (by omega) (by omega) ((n_and15 _).trans hd.symm)
  have t8 : intBin .and .u32 (y8 : Int) 15 = some (.int .u32 (a : Int)) := n_and (y := 15) (by omega) (by omega) ((n_and15 _).trans ha.symm)
  have w0 : IntKind.i64.wrap (o : Int) = o := IntWalk.i64_in _ (by omega)
  have w1 : IntKind.i64.wrap (d : Int) = d := IntWalk.i64_in _ (by omega)
  have w2 : IntKind.i64.wrap (a : Int) = a := IntWalk.i64_in _ (by omega)
  have w3 : IntKind.i64.wrap (y : Int) = y := IntWalk.i64_in _ (by omega)
  have w4 : IntKind.i16.wrap (y : Int) = sx y := i16_sx (by omega)
  have w5 : IntKind.i64.wrap (sx y) = sx y := sx_64 (by omega)
  rw [← ho] at e
  refine SF.go hm Try.func53 ir53_eq ?_
  simp -implicitDefEqProofs (disch := (first | omega | (simp -implicitDefEqProofs only [szs, ne_eq] <;> omega) | fail)) only [go_sem, seval, ↓reduceIte, reduceCtorEq, ir53, undefV, ↓s0, ↓cv25_48, c25_48, w0]
  refine GCall.of (form_ok _ _ _ _) ?_
  rintro r g ⟨rfl, rfl⟩
  simp -implicitDefEqProofs (disch := (first | omega | (simp -implicitDefEqProofs only [szs, ne_eq] <;> omega) | fail)) only [go_sem, seval, ↓reduceIte, reduceCtorEq]
  refine GCall.of (((named_ok _ _ (fun _ => False) (fun _ => False)).kept).foot (fun _ h => h.elim) (fun _ h => h.elim)) ?_
  rintro r g ⟨rfl, vf⟩
  have hb := (vf.get (h.n + 1) (by simp) (by simp))
  have hz := (vf.get h.n (by simp; omega) (by simp))
  simp (disch := first | rfl | ((try simp only [Heap.n_push, Heap.n_set]); omega)) only [w_push_ne, w_push_eq, w_set_eq, w_set_ne] at hb hz
  have hn := vf.n
  simp at hn
  have n0 : h.n ≤ g.n := by omega
  have n1 : h.n < g.n := by omega
  rw [e]
  simp only [show fldD 4 = true from rfl, show fldA 4 = true from rfl, show fldB 4 = false from rfl, show fldM 4 = false from rfl]
  have hm1 : mW w = 0 := by
    unfold mW; rw [← ho, e]
    simp [fldM]
  have hd1 : dW w = d := by unfold dW; rw [← ho, e]; simp [fldD, hd, h12]
  have ha1 : aW w = a := by unfold aW; rw [← ho, e]; simp [fldA, ha, h8]
  have hb1 : bW w = 0 := by unfold bW; rw [← ho, e]; simp [fldB]
  rw [decV_eq ho hd1 ha1 hb1 hm1]
  simp -implicitDefEqProofs (disch := (first | omega | (simp -implicitDefEqProofs only [szs, ne_eq] <;> omega) | fail)) only [go_sem, seval, ↓reduceIte, reduceCtorEq, undefV, hb, n0, ↓s12, ↓s8, ↓t12, ↓t8, ↓cvC, cC, w1, w2]
  refine GCall.of (((iword_ok _ _ _ _ _ _).kept).foot (fun _ h => h.elim) (fun _ h => h.elim)) ?_
  rintro r g1 ⟨rfl, vf1⟩
  have hc := (vf1.get (h.n + 1) (by simp; omega) (by simp))
  have hy := (vf1.get h.n (by simp; omega) (by simp))
  simp (disch := first | rfl | ((try simp only [Heap.n_push, Heap.n_set]); omega)) only [w_push_ne, w_set_eq, w_set_ne, hz] at hc hy
  have hn1 := vf1.n
  simp at hn1
  have m0 : h.n ≤ g1.n := by omega
  have m1 : h.n < g1.n := by omega
  cases hmi : mayI o d a 0 0 with
  | false => simp -implicitDefEqProofs (disch := (first | omega | (simp -implicitDefEqProofs only [szs, ne_eq] <;> omega) | fail)) only [go_sem, seval, ↓reduceIte, reduceCtorEq, undefV, hy]; simp [hmi]
  | true =>
    by_cases hwd : wordI o d a 0 0 = (w : Int)
    · simp -implicitDefEqProofs (disch := (first | omega | (simp -implicitDefEqProofs only [szs, ne_eq] <;> omega) | fail)) only [go_sem, seval, ↓reduceIte, reduceCtorEq, undefV, hc, hy, hwd]; simp [hmi]
    · simp -implicitDefEqProofs (disch := (first | omega | (simp -implicitDefEqProofs only [szs, ne_eq] <;> omega) | fail)) only [go_sem, seval, ↓reduceIte, reduceCtorEq, undefV, hy, hwd]; simp [hmi]
set_option maxHeartbeats 40000000 in
theorem iof_5 {w : Nat} (hw : w < 4294967296) (h : Heap) (e : formI (w % 256 : Nat) = 5) : SF (Try.prog : MP) 53 [.int .u32 (w : Int)] h (fun _ => False) (fun _ => False) fun v h' => v = decV w := by
  obtain ⟨o, ho⟩ : ∃ o : Nat, o = w % 256 := ⟨_, rfl⟩
  obtain ⟨y12, h12⟩ : ∃ y : Nat, y = w / 4096 := ⟨_, rfl⟩
  obtain ⟨y8, h8⟩ : ∃ y : Nat, y = w / 256 := ⟨_, rfl⟩
  obtain ⟨y, h16⟩ : ∃ y : Nat, y = w / 65536 := ⟨_, rfl⟩
  obtain ⟨d, hd⟩ : ∃ y : Nat, y = y12 % 16 := ⟨_, rfl⟩
  obtain ⟨a, ha⟩ : ∃ y : Nat, y = y8 % 16 := ⟨_, rfl⟩
  have s0 : intBin .and .u32 (w : Int) 255 = some (.int .u32 (o : Int)) := n_and (y := 255) hw (by omega) ((n_and255 w).trans ho.symm)
  have s12 : intShift .shr .u32 (w : Int) 12 = some (.int .u32 (y12 : Int)) := n_shr 12 hw h12.symm
  have s8 : intShift .shr .u32 (w : Int) 8 = some (.int .u32 (y8 : Int)) := n_shr 8 hw h8.symm
  have s16 : intShift .shr .u32 (w : Int) 16 = some (.int .u32 (y : Int)) := n_shr 16 hw h16.symm
  have t12 : intBin .and .u32 (y12 : Int) 15 = some (.int .u32 (d : Int)) := n_and (y := 15) (by omega) (by omega) ((n_and15 _).trans hd.symm)
  have t8 : intBin .and .u32 (y8 : Int) 15 = some (.int .u32 (a : Int)) := n_and (y := 15) (by omega) (by omega) ((n_and15 _).trans ha.symm)
  have w0 : IntKind.i64.wrap (o : Int) = o := IntWalk.i64_in _ (by omega)
  have w1 : IntKind.i64.wrap (d : Int) = d := IntWalk.i64_in _ (by omega)
  have w2 : IntKind.i64.wrap (a : Int) = a := IntWalk.i64_in _ (by omega)
  have w3 : IntKind.i64.wrap (y : Int) = y := IntWalk.i64_in _ (by omega)
  have w4 : IntKind.i16.wrap (y : Int) = sx y := i16_sx (by omega)
  have w5 : IntKind.i64.wrap (sx y) = sx y := sx_64 (by omega)
  rw [← ho] at e
  refine SF.go hm Try.func53 ir53_eq ?_
  simp -implicitDefEqProofs (disch := (first | omega | (simp -implicitDefEqProofs only [szs, ne_eq] <;> omega) | fail)) only [go_sem, seval, ↓reduceIte, reduceCtorEq, ir53, undefV, ↓s0, ↓cv25_48, c25_48, w0]
  refine GCall.of (form_ok _ _ _ _) ?_
  rintro r g ⟨rfl, rfl⟩
  simp -implicitDefEqProofs (disch := (first | omega | (simp -implicitDefEqProofs only [szs, ne_eq] <;> omega) | fail)) only [go_sem, seval, ↓reduceIte, reduceCtorEq]
  refine GCall.of (((named_ok _ _ (fun _ => False) (fun _ => False)).kept).foot (fun _ h => h.elim) (fun _ h => h.elim)) ?_
  rintro r g ⟨rfl, vf⟩
  have hb := (vf.get (h.n + 1) (by simp) (by simp))
  have hz := (vf.get h.n (by simp; omega) (by simp))
  simp (disch := first | rfl | ((try simp only [Heap.n_push, Heap.n_set]); omega)) only [w_push_ne, w_push_eq, w_set_eq, w_set_ne] at hb hz
  have hn := vf.n
  simp at hn
  have n0 : h.n ≤ g.n := by omega
  have n1 : h.n < g.n := by omega
  rw [e]
  simp only [show fldD 5 = true from rfl, show fldA 5 = true from rfl, show fldB 5 = true from rfl, show fldM 5 = false from rfl]
  have hm1 : mW w = 0 := by
    unfold mW; rw [← ho, e]
    simp [fldM]
  have hd1 : dW w = d := by unfold dW; rw [← ho, e]; simp [fldD, hd, h12]
  have ha1 : aW w = a := by unfold aW; rw [← ho, e]; simp [fldA, ha, h8]
  have hb1 : bW w = y := by unfold bW; rw [← ho, e]; simp [fldB, h16]
  rw [decV_eq ho hd1 ha1 hb1 hm1]
  simp -implicitDefEqProofs (disch := (first | omega | (simp -implicitDefEqProofs only [szs, ne_eq] <;> omega) | fail)) only [go_sem, seval, ↓reduceIte, reduceCtorEq, undefV, hb, n0, ↓s12, ↓s8, ↓s16, ↓t12, ↓t8, ↓cvC, cC, w1, w2, w3]
  refine GCall.of (((iword_ok _ _ _ _ _ _).kept).foot (fun _ h => h.elim) (fun _ h => h.elim)) ?_
  rintro r g1 ⟨rfl, vf1⟩
  have hc := (vf1.get (h.n + 1) (by simp; omega) (by simp))
  have hy := (vf1.get h.n (by simp; omega) (by simp))
  simp (disch := first | rfl | ((try simp only [Heap.n_push, Heap.n_set]); omega)) only [w_push_ne, w_set_eq, w_set_ne, hz] at hc hy
  have hn1 := vf1.n
  simp at hn1
  have m0 : h.n ≤ g1.n := by omega
  have m1 : h.n < g1.n := by omega
  cases hmi : mayI o d a y 0 with
  | false => simp -implicitDefEqProofs (disch := (first | omega | (simp -implicitDefEqProofs only [szs, ne_eq] <;> omega) | fail)) only [go_sem, seval, ↓reduceIte, reduceCtorEq, undefV, hy]; simp [hmi]
  | true =>
    by_cases hwd : wordI o d a y 0 = (w : Int)
    · simp -implicitDefEqProofs (disch := (first | omega | (simp -implicitDefEqProofs only [szs, ne_eq] <;> omega) | fail)) only [go_sem, seval, ↓reduceIte, reduceCtorEq, undefV, hc, hy, hwd]; simp [hmi]
    · simp -implicitDefEqProofs (disch := (first | omega | (simp -implicitDefEqProofs only [szs, ne_eq] <;> omega) | fail)) only [go_sem, seval, ↓reduceIte, reduceCtorEq, undefV, hy, hwd]; simp [hmi]
set_option maxHeartbeats 40000000 in
theorem iof_6 {w : Nat} (hw : w < 4294967296) (h : Heap) (e : formI (w % 256 : Nat) = 6) : SF (Try.prog : MP) 53 [.int .u32 (w : Int)] h (fun _ => False) (fun _ => False) fun v h' => v = decV w := by
  obtain ⟨o, ho⟩ : ∃ o : Nat, o = w % 256 := ⟨_, rfl⟩
  obtain ⟨y12, h12⟩ : ∃ y : Nat, y = w / 4096 := ⟨_, rfl⟩
  obtain ⟨y8, h8⟩ : ∃ y : Nat, y = w / 256 := ⟨_, rfl⟩
  obtain ⟨y, h16⟩ : ∃ y : Nat, y = w / 65536 := ⟨_, rfl⟩
  obtain ⟨d, hd⟩ : ∃ y : Nat, y = y12 % 16 := ⟨_, rfl⟩
  obtain ⟨a, ha⟩ : ∃ y : Nat, y = y8 % 16 := ⟨_, rfl⟩
  have s0 : intBin .and .u32 (w : Int) 255 = some (.int .u32 (o : Int)) := n_and (y := 255) hw (by omega) ((n_and255 w).trans ho.symm)
  have s12 : intShift .shr .u32 (w : Int) 12 = some (.int .u32 (y12 : Int)) := n_shr 12 hw h12.symm
  have s8 : intShift .shr .u32 (w : Int) 8 = some (.int .u32 (y8 : Int)) := n_shr 8 hw h8.symm
  have s16 : intShift .shr .u32 (w : Int) 16 = some (.int .u32 (y : Int)) := n_shr 16 hw h16.symm
  have t12 : intBin .and .u32 (y12 : Int) 15 = some (.int .u32 (d : Int)) := n_and (y := 15) (by omega) (by omega) ((n_and15 _).trans hd.symm)
  have t8 : intBin .and .u32 (y8 : Int) 15 = some (.int .u32 (a : Int)) := n_and (y := 15) (by omega) (by omega) ((n_and15 _).trans ha.symm)
  have w0 : IntKind.i64.wrap (o : Int) = o := IntWalk.i64_in _ (by omega)
  have w1 : IntKind.i64.wrap (d : Int) = d := IntWalk.i64_in _ (by omega)
  have w2 : IntKind.i64.wrap (a : Int) = a := IntWalk.i64_in _ (by omega)
  have w3 : IntKind.i64.wrap (y : Int) = y := IntWalk.i64_in _ (by omega)
  have w4 : IntKind.i16.wrap (y : Int) = sx y := i16_sx (by omega)
  have w5 : IntKind.i64.wrap (sx y) = sx y := sx_64 (by omega)
  rw [← ho] at e
  refine SF.go hm Try.func53 ir53_eq ?_
  simp -implicitDefEqProofs (disch := (first | omega | (simp -implicitDefEqProofs only [szs, ne_eq] <;> omega) | fail)) only [go_sem, seval, ↓reduceIte, reduceCtorEq, ir53, undefV, ↓s0, ↓cv25_48, c25_48, w0]
  refine GCall.of (form_ok _ _ _ _) ?_
  rintro r g ⟨rfl, rfl⟩
  simp -implicitDefEqProofs (disch := (first | omega | (simp -implicitDefEqProofs only [szs, ne_eq] <;> omega) | fail)) only [go_sem, seval, ↓reduceIte, reduceCtorEq]
  refine GCall.of (((named_ok _ _ (fun _ => False) (fun _ => False)).kept).foot (fun _ h => h.elim) (fun _ h => h.elim)) ?_
  rintro r g ⟨rfl, vf⟩
  have hb := (vf.get (h.n + 1) (by simp) (by simp))
  have hz := (vf.get h.n (by simp; omega) (by simp))
  simp (disch := first | rfl | ((try simp only [Heap.n_push, Heap.n_set]); omega)) only [w_push_ne, w_push_eq, w_set_eq, w_set_ne] at hb hz
  have hn := vf.n
  simp at hn
  have n0 : h.n ≤ g.n := by omega
  have n1 : h.n < g.n := by omega
  rw [e]
  simp only [show fldD 6 = true from rfl, show fldA 6 = true from rfl, show fldB 6 = false from rfl, show fldM 6 = true from rfl]
  have hwi : wideI o = false := by cases hwi : wideI o with
    | false => rfl
    | true => rcases wide_form hwi with x | x <;> rw [x] at e <;> simp at e
  have hm1 : mW w = sx y := by
    unfold mW; rw [← ho, e, hwi]
    simp [fldM, ← h16]
  have hd1 : dW w = d := by unfold dW; rw [← ho, e]; simp [fldD, hd, h12]
  have ha1 : aW w = a := by unfold aW; rw [← ho, e]; simp [fldA, ha, h8]
  have hb1 : bW w = 0 := by unfold bW; rw [← ho, e]; simp [fldB]
  rw [decV_eq ho hd1 ha1 hb1 hm1]
  simp -implicitDefEqProofs (disch := (first | omega | (simp -implicitDefEqProofs only [szs, ne_eq] <;> omega) | fail)) only [go_sem, seval, ↓reduceIte, reduceCtorEq, undefV, hb, n0, ↓s12, ↓s8, ↓s16, ↓t12, ↓t8, ↓cvC, cC, ↓cv25_113, c25_113, ↓cv113_3, c113_3, w1, w2, w4, w5]
  refine GCall.of (wide_ok _ _ _ _) ?_
  rintro r g1 ⟨rfl, rfl⟩
  rw [hwi]
  simp -implicitDefEqProofs (disch := (first | omega | (simp -implicitDefEqProofs only [szs, ne_eq] <;> omega) | fail)) only [go_sem, seval, ↓reduceIte, reduceCtorEq]
  refine GCall.of (((iword_ok _ _ _ _ _ _).kept).foot (fun _ h => h.elim) (fun _ h => h.elim)) ?_
  rintro r g1 ⟨rfl, vf1⟩
  have hc := (vf1.get (h.n + 1) (by simp; omega) (by simp))
  have hy := (vf1.get h.n (by simp; omega) (by simp))
  simp (disch := first | rfl | ((try simp only [Heap.n_push, Heap.n_set]); omega)) only [w_push_ne, w_set_eq, w_set_ne, hz] at hc hy
  have hn1 := vf1.n
  simp at hn1
  have m0 : h.n ≤ g1.n := by omega
  have m1 : h.n < g1.n := by omega
  cases hmi : mayI o d a 0 (sx y) with
  | false => simp -implicitDefEqProofs (disch := (first | omega | (simp -implicitDefEqProofs only [szs, ne_eq] <;> omega) | fail)) only [go_sem, seval, ↓reduceIte, reduceCtorEq, undefV, hy]; simp [hmi]
  | true =>
    by_cases hwd : wordI o d a 0 (sx y) = (w : Int)
    · simp -implicitDefEqProofs (disch := (first | omega | (simp -implicitDefEqProofs only [szs, ne_eq] <;> omega) | fail)) only [go_sem, seval, ↓reduceIte, reduceCtorEq, undefV, hc, hy, hwd]; simp [hmi]
    · simp -implicitDefEqProofs (disch := (first | omega | (simp -implicitDefEqProofs only [szs, ne_eq] <;> omega) | fail)) only [go_sem, seval, ↓reduceIte, reduceCtorEq, undefV, hy, hwd]; simp [hmi]
theorem iof_ok {w : Nat} (hw : w < 4294967296) (h : Heap) : SF (Try.prog : MP) 53 [.int .u32 (w : Int)] h (fun _ => False) (fun _ => False) fun v h' => v = decV w := by
  rcases formI_in (w % 256 : Nat) with e | e | e | e | e | e | e
  · exact iof_0 hw h e
  · exact iof_1 hw h e
  · exact iof_2 hw h e
  · exact iof_3 hw h e
  · exact iof_4 hw h e
  · exact iof_5 hw h e
  · exact iof_6 hw h e
end Go.Proofs.Ytmkdbninmimndaa
