/- The document's Of (printed by genD7.py). -/
import Derived.Test.YtmkdbninmimndaaD6
set_option linter.unusedVariables false
set_option maxRecDepth 100000
namespace Go.Proofs.Ytmkdbninmimndaa
open Go Go.Vm
theorem regR_iff (is : Bool) (n : Int) : regR is n = true ↔ n = 0 ∨ (is = true ∧ 0 < n ∧ n < 16) := by unfold regR; simp
theorem loI_hi {op : Int} {y : Nat} (hy : y < 65536) : loI op ≤ (if wideI op = true then (y : Int) else sx y) ∧ (if wideI op = true then (y : Int) else sx y) ≤ hiI op := by
  unfold loI hiI sx
  cases wideI op
  · simp; split <;> omega
  · simp; omega
theorem acc_r {w o d a b y : Nat} {m : Int} (hw : w < 4294967296) (ho : o = w % 256) (hy : y = w / 65536) (hd : dW w = d) (ha : aW w = a) (hb : bW w = b) (hm' : mW w = m) (d16 : d < 16) (a16 : a < 16) :
    (mayR o d a (b % 256 : Nat) m && decide ((wordR o d a (b % 256) m : Int) = w)) = (mayI o d a b m && decide (wordI o d a b m = w)) := by
  have hm := loI_hi (op := o) (y := y) (by omega)
  have hlo : loI o ≤ 0 ∧ 0 ≤ hiI o := by unfold loI hiI; constructor <;> (split <;> omega)
  unfold dW at hd
  unfold aW at ha
  unfold bW at hb
  unfold mW at hm'
  rw [← ho] at hd ha hb hm'
  rw [← hy] at hb hm'
  rw [Bool.eq_iff_iff]
  unfold mayR mayI wordR wordI
  simp only [Bool.and_eq_true, Bool.or_eq_true, decide_eq_true_eq, regR_iff, beq_iff_eq]
  by_cases o1 : 1 ≤ (o : Int) ∧ (o : Int) ≤ 28
  · rcases formI_in o with e | e | e | e | e | e | e
    · rw [e] at hd ha hb hm' ⊢
      simp only [show fldD 0 = false from rfl, show fldA 0 = false from rfl, show fldB 0 = false from rfl, show fldM 0 = false from rfl, Bool.false_eq_true, if_false, false_or, false_and, or_false] at hd ha hb hm' ⊢
      rw [if_neg (by decide)]
      cases hwi : wideI o <;> (try simp only [hwi, if_true, if_false, Bool.false_eq_true] at hm hm') <;> (refine ⟨fun hh => ?_, fun hh => ?_⟩) <;> (try subst hm') <;> omega
    · rw [e] at hd ha hb hm' ⊢
      simp only [show fldD 1 = false from rfl, show fldA 1 = false from rfl, show fldB 1 = false from rfl, show fldM 1 = true from rfl, Bool.false_eq_true, if_true, if_false, false_or, true_or, and_true, false_and, true_and, or_false] at hd ha hb hm' ⊢
      rw [if_neg (by decide)]
      cases hwi : wideI o <;> (try simp only [hwi, if_true, if_false, Bool.false_eq_true] at hm hm') <;> (refine ⟨fun hh => ?_, fun hh => ?_⟩) <;> (try subst hm') <;> omega
    · rw [e] at hd ha hb hm' ⊢
      simp only [show fldD 2 = false from rfl, show fldA 2 = true from rfl, show fldB 2 = false from rfl, show fldM 2 = false from rfl, Bool.false_eq_true, if_true, if_false, false_or, true_or, and_true, false_and, true_and, or_false] at hd ha hb hm' ⊢
      rw [if_neg (by decide)]
      cases hwi : wideI o <;> (try simp only [hwi, if_true, if_false, Bool.false_eq_true] at hm hm') <;> (refine ⟨fun hh => ?_, fun hh => ?_⟩) <;> (try subst hm') <;> omega
    · rw [e] at hd ha hb hm' ⊢
      simp only [show fldD 3 = true from rfl, show fldA 3 = false from rfl, show fldB 3 = false from rfl, show fldM 3 = true from rfl, Bool.false_eq_true, if_true, if_false, false_or, true_or, and_true, false_and, true_and, or_false] at hd ha hb hm' ⊢
      rw [if_neg (by decide)]
      cases hwi : wideI o <;> (try simp only [hwi, if_true, if_false, Bool.false_eq_true] at hm hm') <;> (refine ⟨fun hh => ?_, fun hh => ?_⟩) <;> (try subst hm') <;> omega
    · rw [e] at hd ha hb hm' ⊢
      simp only [show fldD 4 = true from rfl, show fldA 4 = true from rfl, show fldB 4 = false from rfl, show fldM 4 = false from rfl, Bool.false_eq_true, if_true, if_false, false_or, true_or, and_true, false_and, true_and, or_false] at hd ha hb hm' ⊢
      rw [if_neg (by decide)]
      cases hwi : wideI o <;> (try simp only [hwi, if_true, if_false, Bool.false_eq_true] at hm hm') <;> (refine ⟨fun hh => ?_, fun hh => ?_⟩) <;> (try subst hm') <;> omega
    · rw [e] at hd ha hb hm' ⊢
      simp only [show fldD 5 = true from rfl, show fldA 5 = true from rfl, show fldB 5 = true from rfl, show fldM 5 = false from rfl, Bool.false_eq_true, if_true, if_false, false_or, true_or, and_true, false_and, true_and, or_false] at hd ha hb hm' ⊢
      cases hwi : wideI o <;> (try simp only [hwi, if_true, if_false, Bool.false_eq_true] at hm hm') <;> (refine ⟨fun hh => ?_, fun hh => ?_⟩) <;> (try subst hm') <;> omega
    · rw [e] at hd ha hb hm' ⊢
      simp only [show fldD 6 = true from rfl, show fldA 6 = true from rfl, show fldB 6 = false from rfl, show fldM 6 = true from rfl, Bool.false_eq_true, if_true, if_false, false_or, true_or, and_true, false_and, true_and, or_false] at hd ha hb hm' ⊢
      rw [if_neg (by decide)]
      cases hwi : wideI o <;> (try simp only [hwi, if_true, if_false, Bool.false_eq_true] at hm hm') <;> (refine ⟨fun hh => ?_, fun hh => ?_⟩) <;> (try subst hm') <;> omega
  · simp [o1]
theorem sx_sub {y : Nat} (hy : y < 65536) (h : 32767 < (y : Int)) : intBin .sub .i64 (y : Int) 65536 = some (.int .i64 (sx y)) := by
  show some (V.int .i64 (IntKind.i64.wrap _)) = _
  rw [IntWalk.i64_in _ (by omega)]
  unfold sx
  rw [if_neg (by omega)]
set_option maxHeartbeats 40000000 in
theorem rof_0 {w : Nat} (hw : w < 4294967296) (h : Heap) (e : formI (w % 256 : Nat) = 0) : SF (Try.prog : MP) 49 [.int .u32 (w : Int)] h (fun _ => False) (fun _ => False) fun v h' => v = decV w := by
  obtain ⟨o, ho⟩ : ∃ o : Nat, o = w % 256 := ⟨_, rfl⟩
  obtain ⟨y12, h12⟩ : ∃ y : Nat, y = w / 4096 := ⟨_, rfl⟩
  obtain ⟨y8, h8⟩ : ∃ y : Nat, y = w / 256 := ⟨_, rfl⟩
  obtain ⟨y, h16⟩ : ∃ y : Nat, y = w / 65536 := ⟨_, rfl⟩
  obtain ⟨d, hd⟩ : ∃ y : Nat, y = y12 % 16 := ⟨_, rfl⟩
  obtain ⟨a, ha⟩ : ∃ y : Nat, y = y8 % 16 := ⟨_, rfl⟩
  obtain ⟨b, hb⟩ : ∃ b : Nat, b = y % 256 := ⟨_, rfl⟩
  have s0 : intBin .and .u32 (w : Int) 255 = some (.int .u32 (o : Int)) := n_and (y := 255) hw (by omega) ((n_and255 w).trans ho.symm)
  have s12 : intShift .shr .u32 (w : Int) 12 = some (.int .u32 (y12 : Int)) := n_shr 12 hw h12.symm
  have s8 : intShift .shr .u32 (w : Int) 8 = some (.int .u32 (y8 : Int)) := n_shr 8 hw h8.symm
  have s16 : intShift .shr .u32 (w : Int) 16 = some (.int .u32 (y : Int)) := n_shr 16 hw h16.symm
  have t12 : intBin .and .u32 (y12 : Int) 15 = some (.int .u32 (d : Int)) := n_and (y := 15) (by omega) (by omega) ((n_and15 _).trans hd.symm)
  have t8 : intBin .and .u32 (y8 : Int) 15 = some (.int .u32 (a : Int)) := n_and (y := 15) (by omega) (by omega) ((n_and15 _).trans ha.symm)
  have t16 : intBin .and .u32 (y : Int) 255 = some (.int .u32 (b : Int)) := n_and (y := 255) (by omega) (by omega) ((n_and255 _).trans hb.symm)
  have w0 : IntKind.i64.wrap (o : Int) = o := IntWalk.i64_in _ (by omega)
  have w1 : IntKind.i64.wrap (d : Int) = d := IntWalk.i64_in _ (by omega)
  have w2 : IntKind.i64.wrap (a : Int) = a := IntWalk.i64_in _ (by omega)
  have w3 : IntKind.i64.wrap (y : Int) = y := IntWalk.i64_in _ (by omega)
  have w4 : IntKind.i64.wrap (b : Int) = b := IntWalk.i64_in _ (by omega)
  have hy' : y < 65536 := by omega
  have hd' : d < 16 := by omega
  have ha' : a < 16 := by omega
  have hb' : b < 256 := by omega
  have ho' : o < 256 := by omega
  rw [← ho] at e
  refine SF.go hm Try.func49 ir49_eq ?_
  simp -implicitDefEqProofs (disch := (first | omega | (simp -implicitDefEqProofs only [szs, ne_eq] <;> omega) | fail)) only [go_sem, seval, ↓reduceIte, reduceCtorEq, ir49, undefV, ↓s0, ↓cv25_48, c25_48, w0]
  refine GCall.of (rform_ok _ _ _ _) ?_
  rintro r g ⟨rfl, rfl⟩
  simp -implicitDefEqProofs (disch := (first | omega | (simp -implicitDefEqProofs only [szs, ne_eq] <;> omega) | fail)) only [go_sem, seval, ↓reduceIte, reduceCtorEq]
  refine GCall.of (rnames_ok _ _ _ _) ?_
  rintro r g ⟨rfl, rfl⟩
  rw [e]
  simp only [show fldD 0 = false from rfl, show fldA 0 = false from rfl, show fldB 0 = false from rfl, show fldM 0 = false from rfl]
  have hm1 : mW w = 0 := by
    unfold mW; rw [← ho, e]
    simp [fldM]
  have hd1 : dW w = 0 := by unfold dW; rw [← ho, e]; simp [fldD]
  have ha1 : aW w = 0 := by unfold aW; rw [← ho, e]; simp [fldA]
  have hb1 : bW w = 0 := by unfold bW; rw [← ho, e]; simp [fldB]
  have hacc := acc_r hw ho h16 hd1 ha1 hb1 hm1 (by omega) (by omega)
  rw [decV_eq ho hd1 ha1 hb1 hm1, ← hacc]
  simp -implicitDefEqProofs (disch := (first | omega | (simp -implicitDefEqProofs only [szs, ne_eq] <;> omega) | fail)) only [go_sem, seval, ↓reduceIte, reduceCtorEq]
  refine GCall.of (((rmay49_ok _ _ _ _ _ _).kept).foot (fun _ h => h.elim) (fun _ h => h.elim)) ?_
  rintro r g1 ⟨rfl, vf1⟩
  have hc := (vf1.get (h.n + 1) (by simp only [Heap.n_push, Heap.n_set]; omega) (by simp))
  have hz := (vf1.get h.n (by simp only [Heap.n_push, Heap.n_set]; omega) (by simp))
  simp (disch := first | rfl | ((try simp only [Heap.n_push, Heap.n_set]); omega)) only [w_push_ne, w_push_eq, w_set_eq, w_set_ne] at hc hz
  have hn1 := vf1.n
  simp at hn1
  have m0 : h.n ≤ g1.n := by omega
  have m1 : h.n < g1.n := by omega
  cases hmi : mayR o 0 0 0 0 with
  | false => simp -implicitDefEqProofs (disch := (first | omega | (simp -implicitDefEqProofs only [szs, ne_eq] <;> omega) | fail)) only [go_sem, seval, ↓reduceIte, reduceCtorEq, undefV, hz]; simp [hmi]
  | true =>
    simp -implicitDefEqProofs (disch := (first | omega | (simp -implicitDefEqProofs only [szs, ne_eq] <;> omega) | fail)) only [go_sem, seval, ↓reduceIte, reduceCtorEq, hc]
    refine GCall.of (((rword57_ok (o := o) (d := 0) (a := 0) (b := 0) (m := 0) ho' (by omega) (by omega) (by omega) _).kept).foot (fun _ h => h.elim) (fun _ h => h.elim)) ?_
    rintro r g2 ⟨rfl, vf2⟩
    have hc2 := (vf2.get (h.n + 1) (by omega) (by simp)).trans hc
    have hz2 := (vf2.get h.n (by omega) (by simp)).trans hz
    have hn2 := vf2.n
    have q0 : h.n ≤ g2.n := by omega
    have q1 : h.n < g2.n := by omega
    by_cases hwd : (wordR o 0 0 0 0 : Int) = (w : Int)
    · simp -implicitDefEqProofs (disch := (first | omega | (simp -implicitDefEqProofs only [szs, ne_eq] <;> omega) | fail)) only [go_sem, seval, ↓reduceIte, reduceCtorEq, undefV, hc2, hz2, hwd]; simp [hmi]
    · simp -implicitDefEqProofs (disch := (first | omega | (simp -implicitDefEqProofs only [szs, ne_eq] <;> omega) | fail)) only [go_sem, seval, ↓reduceIte, reduceCtorEq, undefV, hz2, hwd]; simp [hmi]
set_option maxHeartbeats 40000000 in
theorem rof_1 {w : Nat} (hw : w < 4294967296) (h : Heap) (e : formI (w % 256 : Nat) = 1) : SF (Try.prog : MP) 49 [.int .u32 (w : Int)] h (fun _ => False) (fun _ => False) fun v h' => v = decV w := by
  obtain ⟨o, ho⟩ : ∃ o : Nat, o = w % 256 := ⟨_, rfl⟩
  obtain ⟨y12, h12⟩ : ∃ y : Nat, y = w / 4096 := ⟨_, rfl⟩
  obtain ⟨y8, h8⟩ : ∃ y : Nat, y = w / 256 := ⟨_, rfl⟩
  obtain ⟨y, h16⟩ : ∃ y : Nat, y = w / 65536 := ⟨_, rfl⟩
  obtain ⟨d, hd⟩ : ∃ y : Nat, y = y12 % 16 := ⟨_, rfl⟩
  obtain ⟨a, ha⟩ : ∃ y : Nat, y = y8 % 16 := ⟨_, rfl⟩
  obtain ⟨b, hb⟩ : ∃ b : Nat, b = y % 256 := ⟨_, rfl⟩
  have s0 : intBin .and .u32 (w : Int) 255 = some (.int .u32 (o : Int)) := n_and (y := 255) hw (by omega) ((n_and255 w).trans ho.symm)
  have s12 : intShift .shr .u32 (w : Int) 12 = some (.int .u32 (y12 : Int)) := n_shr 12 hw h12.symm
  have s8 : intShift .shr .u32 (w : Int) 8 = some (.int .u32 (y8 : Int)) := n_shr 8 hw h8.symm
  have s16 : intShift .shr .u32 (w : Int) 16 = some (.int .u32 (y : Int)) := n_shr 16 hw h16.symm
  have t12 : intBin .and .u32 (y12 : Int) 15 = some (.int .u32 (d : Int)) := n_and (y := 15) (by omega) (by omega) ((n_and15 _).trans hd.symm)
  have t8 : intBin .and .u32 (y8 : Int) 15 = some (.int .u32 (a : Int)) := n_and (y := 15) (by omega) (by omega) ((n_and15 _).trans ha.symm)
  have t16 : intBin .and .u32 (y : Int) 255 = some (.int .u32 (b : Int)) := n_and (y := 255) (by omega) (by omega) ((n_and255 _).trans hb.symm)
  have w0 : IntKind.i64.wrap (o : Int) = o := IntWalk.i64_in _ (by omega)
  have w1 : IntKind.i64.wrap (d : Int) = d := IntWalk.i64_in _ (by omega)
  have w2 : IntKind.i64.wrap (a : Int) = a := IntWalk.i64_in _ (by omega)
  have w3 : IntKind.i64.wrap (y : Int) = y := IntWalk.i64_in _ (by omega)
  have w4 : IntKind.i64.wrap (b : Int) = b := IntWalk.i64_in _ (by omega)
  have hy' : y < 65536 := by omega
  have hd' : d < 16 := by omega
  have ha' : a < 16 := by omega
  have hb' : b < 256 := by omega
  have ho' : o < 256 := by omega
  rw [← ho] at e
  refine SF.go hm Try.func49 ir49_eq ?_
  simp -implicitDefEqProofs (disch := (first | omega | (simp -implicitDefEqProofs only [szs, ne_eq] <;> omega) | fail)) only [go_sem, seval, ↓reduceIte, reduceCtorEq, ir49, undefV, ↓s0, ↓cv25_48, c25_48, w0]
  refine GCall.of (rform_ok _ _ _ _) ?_
  rintro r g ⟨rfl, rfl⟩
  simp -implicitDefEqProofs (disch := (first | omega | (simp -implicitDefEqProofs only [szs, ne_eq] <;> omega) | fail)) only [go_sem, seval, ↓reduceIte, reduceCtorEq]
  refine GCall.of (rnames_ok _ _ _ _) ?_
  rintro r g ⟨rfl, rfl⟩
  rw [e]
  simp only [show fldD 1 = false from rfl, show fldA 1 = false from rfl, show fldB 1 = false from rfl, show fldM 1 = true from rfl]
  by_cases n3 : (o : Int) = 3
  · have hwi : wideI o = true := by rw [n3]; decide
    have q3 : intBin .neq .i64 (o : Int) 3 = some (.bool false) := by rw [n3]; rfl
    have hm1 : mW w = (y : Int) := by
      unfold mW; rw [← ho, e, hwi]
      simp [fldM, ← h16]
    have hd1 : dW w = 0 := by unfold dW; rw [← ho, e]; simp [fldD]
    have ha1 : aW w = 0 := by unfold aW; rw [← ho, e]; simp [fldA]
    have hb1 : bW w = 0 := by unfold bW; rw [← ho, e]; simp [fldB]
    have hacc := acc_r hw ho h16 hd1 ha1 hb1 hm1 (by omega) (by omega)
    rw [decV_eq ho hd1 ha1 hb1 hm1, ← hacc]
    simp -implicitDefEqProofs (disch := (first | omega | (simp -implicitDefEqProofs only [szs, ne_eq] <;> omega) | fail)) only [go_sem, seval, ↓reduceIte, reduceCtorEq, undefV, ↓s16, ↓cvC, cC, w3, ↓q3]
    refine GCall.of (((rmay49_ok _ _ _ _ _ _).kept).foot (fun _ h => h.elim) (fun _ h => h.elim)) ?_
    rintro r g1 ⟨rfl, vf1⟩
    have hc := (vf1.get (h.n + 1) (by simp only [Heap.n_push, Heap.n_set]; omega) (by simp))
    have hz := (vf1.get h.n (by simp only [Heap.n_push, Heap.n_set]; omega) (by simp))
    simp (disch := first | rfl | ((try simp only [Heap.n_push, Heap.n_set]); omega)) only [w_push_ne, w_push_eq, w_set_eq, w_set_ne] at hc hz
    have hn1 := vf1.n
    simp at hn1
    have m0 : h.n ≤ g1.n := by omega
    have m1 : h.n < g1.n := by omega
    cases hmi : mayR o 0 0 0 (y : Int) with
    | false => simp -implicitDefEqProofs (disch := (first | omega | (simp -implicitDefEqProofs only [szs, ne_eq] <;> omega) | fail)) only [go_sem, seval, ↓reduceIte, reduceCtorEq, undefV, hz]; simp [hmi]
    | true =>
      simp -implicitDefEqProofs (disch := (first | omega | (simp -implicitDefEqProofs only [szs, ne_eq] <;> omega) | fail)) only [go_sem, seval, ↓reduceIte, reduceCtorEq, hc]
      refine GCall.of (((rword57_ok (o := o) (d := 0) (a := 0) (b := 0) (m := (y : Int)) ho' (by omega) (by omega) (by omega) _).kept).foot (fun _ h => h.elim) (fun _ h => h.elim)) ?_
      rintro r g2 ⟨rfl, vf2⟩
      have hc2 := (vf2.get (h.n + 1) (by omega) (by simp)).trans hc
      have hz2 := (vf2.get h.n (by omega) (by simp)).trans hz
      have hn2 := vf2.n
      have q0 : h.n ≤ g2.n := by omega
      have q1 : h.n < g2.n := by omega
      by_cases hwd : (wordR o 0 0 0 (y : Int) : Int) = (w : Int)
      · simp -implicitDefEqProofs (disch := (first | omega | (simp -implicitDefEqProofs only [szs, ne_eq] <;> omega) | fail)) only [go_sem, seval, ↓reduceIte, reduceCtorEq, undefV, hc2, hz2, hwd]; simp [hmi]
      · simp -implicitDefEqProofs (disch := (first | omega | (simp -implicitDefEqProofs only [szs, ne_eq] <;> omega) | fail)) only [go_sem, seval, ↓reduceIte, reduceCtorEq, undefV, hz2, hwd]; simp [hmi]
  have n6 : ¬ (o : Int) = 6 := fun x => by rw [x] at e; exact absurd e (by decide)
  have hwi : wideI o = false := by unfold wideI; simp [n3, n6]
  by_cases big : 32767 < (y : Int)
  rotate_left
  · have hsx : sx y = y := by unfold sx; rw [if_pos (by omega)]
    have hm1 : mW w = (y : Int) := by
      unfold mW; rw [← ho, e, hwi]
      simp [fldM, ← h16, hsx]
    have hd1 : dW w = 0 := by unfold dW; rw [← ho, e]; simp [fldD]
    have ha1 : aW w = 0 := by unfold aW; rw [← ho, e]; simp [fldA]
    have hb1 : bW w = 0 := by unfold bW; rw [← ho, e]; simp [fldB]
    have hacc := acc_r hw ho h16 hd1 ha1 hb1 hm1 (by omega) (by omega)
    rw [decV_eq ho hd1 ha1 hb1 hm1, ← hacc]
    simp -implicitDefEqProofs (disch := (first | omega | (simp -implicitDefEqProofs only [szs, ne_eq] <;> omega) | fail)) only [go_sem, seval, ↓reduceIte, reduceCtorEq, undefV, ↓s16, ↓cvC, cC, w3, big]
    refine GCall.of (((rmay49_ok _ _ _ _ _ _).kept).foot (fun _ h => h.elim) (fun _ h => h.elim)) ?_
    rintro r g1 ⟨rfl, vf1⟩
    have hc := (vf1.get (h.n + 1) (by simp only [Heap.n_push, Heap.n_set]; omega) (by simp))
    have hz := (vf1.get h.n (by simp only [Heap.n_push, Heap.n_set]; omega) (by simp))
    simp (disch := first | rfl | ((try simp only [Heap.n_push, Heap.n_set]); omega)) only [w_push_ne, w_push_eq, w_set_eq, w_set_ne] at hc hz
    have hn1 := vf1.n
    simp at hn1
    have m0 : h.n ≤ g1.n := by omega
    have m1 : h.n < g1.n := by omega
    cases hmi : mayR o 0 0 0 (y : Int) with
    | false => simp -implicitDefEqProofs (disch := (first | omega | (simp -implicitDefEqProofs only [szs, ne_eq] <;> omega) | fail)) only [go_sem, seval, ↓reduceIte, reduceCtorEq, undefV, hz]; simp [hmi]
    | true =>
      simp -implicitDefEqProofs (disch := (first | omega | (simp -implicitDefEqProofs only [szs, ne_eq] <;> omega) | fail)) only [go_sem, seval, ↓reduceIte, reduceCtorEq, hc]
      refine GCall.of (((rword57_ok (o := o) (d := 0) (a := 0) (b := 0) (m := (y : Int)) ho' (by omega) (by omega) (by omega) _).kept).foot (fun _ h => h.elim) (fun _ h => h.elim)) ?_
      rintro r g2 ⟨rfl, vf2⟩
      have hc2 := (vf2.get (h.n + 1) (by omega) (by simp)).trans hc
      have hz2 := (vf2.get h.n (by omega) (by simp)).trans hz
      have hn2 := vf2.n
      have q0 : h.n ≤ g2.n := by omega
      have q1 : h.n < g2.n := by omega
      by_cases hwd : (wordR o 0 0 0 (y : Int) : Int) = (w : Int)
      · simp -implicitDefEqProofs (disch := (first | omega | (simp -implicitDefEqProofs only [szs, ne_eq] <;> omega) | fail)) only [go_sem, seval, ↓reduceIte, reduceCtorEq, undefV, hc2, hz2, hwd]; simp [hmi]
      · simp -implicitDefEqProofs (disch := (first | omega | (simp -implicitDefEqProofs only [szs, ne_eq] <;> omega) | fail)) only [go_sem, seval, ↓reduceIte, reduceCtorEq, undefV, hz2, hwd]; simp [hmi]
  have hsub := sx_sub hy' big
  have hm1 : mW w = sx y := by
    unfold mW; rw [← ho, e, hwi]
    simp [fldM, ← h16]
  have hd1 : dW w = 0 := by unfold dW; rw [← ho, e]; simp [fldD]
  have ha1 : aW w = 0 := by unfold aW; rw [← ho, e]; simp [fldA]
  have hb1 : bW w = 0 := by unfold bW; rw [← ho, e]; simp [fldB]
  have hacc := acc_r hw ho h16 hd1 ha1 hb1 hm1 (by omega) (by omega)
  rw [decV_eq ho hd1 ha1 hb1 hm1, ← hacc]
  simp -implicitDefEqProofs (disch := (first | omega | (simp -implicitDefEqProofs only [szs, ne_eq] <;> omega) | fail)) only [go_sem, seval, ↓reduceIte, reduceCtorEq, undefV, ↓s16, ↓cvC, cC, w3, big, ↓hsub]
  refine GCall.of (((rmay49_ok _ _ _ _ _ _).kept).foot (fun _ h => h.elim) (fun _ h => h.elim)) ?_
  rintro r g1 ⟨rfl, vf1⟩
  have hc := (vf1.get (h.n + 1) (by simp only [Heap.n_push, Heap.n_set]; omega) (by simp))
  have hz := (vf1.get h.n (by simp only [Heap.n_push, Heap.n_set]; omega) (by simp))
  simp (disch := first | rfl | ((try simp only [Heap.n_push, Heap.n_set]); omega)) only [w_push_ne, w_push_eq, w_set_eq, w_set_ne] at hc hz
  have hn1 := vf1.n
  simp at hn1
  have m0 : h.n ≤ g1.n := by omega
  have m1 : h.n < g1.n := by omega
  cases hmi : mayR o 0 0 0 (sx y) with
  | false => simp -implicitDefEqProofs (disch := (first | omega | (simp -implicitDefEqProofs only [szs, ne_eq] <;> omega) | fail)) only [go_sem, seval, ↓reduceIte, reduceCtorEq, undefV, hz]; simp [hmi]
  | true =>
    simp -implicitDefEqProofs (disch := (first | omega | (simp -implicitDefEqProofs only [szs, ne_eq] <;> omega) | fail)) only [go_sem, seval, ↓reduceIte, reduceCtorEq, hc]
    refine GCall.of (((rword57_ok (o := o) (d := 0) (a := 0) (b := 0) (m := sx y) ho' (by omega) (by omega) (by omega) _).kept).foot (fun _ h => h.elim) (fun _ h => h.elim)) ?_
    rintro r g2 ⟨rfl, vf2⟩
    have hc2 := (vf2.get (h.n + 1) (by omega) (by simp)).trans hc
    have hz2 := (vf2.get h.n (by omega) (by simp)).trans hz
    have hn2 := vf2.n
    have q0 : h.n ≤ g2.n := by omega
    have q1 : h.n < g2.n := by omega
    by_cases hwd : (wordR o 0 0 0 (sx y) : Int) = (w : Int)
    · simp -implicitDefEqProofs (disch := (first | omega | (simp -implicitDefEqProofs only [szs, ne_eq] <;> omega) | fail)) only [go_sem, seval, ↓reduceIte, reduceCtorEq, undefV, hc2, hz2, hwd]; simp [hmi]
    · simp -implicitDefEqProofs (disch := (first | omega | (simp -implicitDefEqProofs only [szs, ne_eq] <;> omega) | fail)) only [go_sem, seval, ↓reduceIte, reduceCtorEq, undefV, hz2, hwd]; simp [hmi]
set_option maxHeartbeats 40000000 in
theorem rof_2 {w : Nat} (hw : w < 4294967296) (h : Heap) (e : formI (w % 256 : Nat) = 2) : SF (Try.prog : MP) 49 [.int .u32 (w : Int)] h (fun _ => False) (fun _ => False) fun v h' => v = decV w := by
  obtain ⟨o, ho⟩ : ∃ o : Nat, o = w % 256 := ⟨_, rfl⟩
  obtain ⟨y12, h12⟩ : ∃ y : Nat, y = w / 4096 := ⟨_, rfl⟩
  obtain ⟨y8, h8⟩ : ∃ y : Nat, y = w / 256 := ⟨_, rfl⟩
  obtain ⟨y, h16⟩ : ∃ y : Nat, y = w / 65536 := ⟨_, rfl⟩
  obtain ⟨d, hd⟩ : ∃ y : Nat, y = y12 % 16 := ⟨_, rfl⟩
  obtain ⟨a, ha⟩ : ∃ y : Nat, y = y8 % 16 := ⟨_, rfl⟩
  obtain ⟨b, hb⟩ : ∃ b : Nat, b = y % 256 := ⟨_, rfl⟩
  have s0 : intBin .and .u32 (w : Int) 255 = some (.int .u32 (o : Int)) := n_and (y := 255) hw (by omega) ((n_and255 w).trans ho.symm)
  have s12 : intShift .shr .u32 (w : Int) 12 = some (.int .u32 (y12 : Int)) := n_shr 12 hw h12.symm
  have s8 : intShift .shr .u32 (w : Int) 8 = some (.int .u32 (y8 : Int)) := n_shr 8 hw h8.symm
  have s16 : intShift .shr .u32 (w : Int) 16 = some (.int .u32 (y : Int)) := n_shr 16 hw h16.symm
  have t12 : intBin .and .u32 (y12 : Int) 15 = some (.int .u32 (d : Int)) := n_and (y := 15) (by omega) (by omega) ((n_and15 _).trans hd.symm)
  have t8 : intBin .and .u32 (y8 : Int) 15 = some (.int .u32 (a : Int)) := n_and (y := 15) (by omega) (by omega) ((n_and15 _).trans ha.symm)
  have t16 : intBin .and .u32 (y : Int) 255 = some (.int .u32 (b : Int)) := n_and (y := 255) (by omega) (by omega) ((n_and255 _).trans hb.symm)
  have w0 : IntKind.i64.wrap (o : Int) = o := IntWalk.i64_in _ (by omega)
  have w1 : IntKind.i64.wrap (d : Int) = d := IntWalk.i64_in _ (by omega)
  have w2 : IntKind.i64.wrap (a : Int) = a := IntWalk.i64_in _ (by omega)
  have w3 : IntKind.i64.wrap (y : Int) = y := IntWalk.i64_in _ (by omega)
  have w4 : IntKind.i64.wrap (b : Int) = b := IntWalk.i64_in _ (by omega)
  have hy' : y < 65536 := by omega
  have hd' : d < 16 := by omega
  have ha' : a < 16 := by omega
  have hb' : b < 256 := by omega
  have ho' : o < 256 := by omega
  rw [← ho] at e
  refine SF.go hm Try.func49 ir49_eq ?_
  simp -implicitDefEqProofs (disch := (first | omega | (simp -implicitDefEqProofs only [szs, ne_eq] <;> omega) | fail)) only [go_sem, seval, ↓reduceIte, reduceCtorEq, ir49, undefV, ↓s0, ↓cv25_48, c25_48, w0]
  refine GCall.of (rform_ok _ _ _ _) ?_
  rintro r g ⟨rfl, rfl⟩
  simp -implicitDefEqProofs (disch := (first | omega | (simp -implicitDefEqProofs only [szs, ne_eq] <;> omega) | fail)) only [go_sem, seval, ↓reduceIte, reduceCtorEq]
  refine GCall.of (rnames_ok _ _ _ _) ?_
  rintro r g ⟨rfl, rfl⟩
  rw [e]
  simp only [show fldD 2 = false from rfl, show fldA 2 = true from rfl, show fldB 2 = false from rfl, show fldM 2 = false from rfl]
  have hm1 : mW w = 0 := by
    unfold mW; rw [← ho, e]
    simp [fldM]
  have hd1 : dW w = 0 := by unfold dW; rw [← ho, e]; simp [fldD]
  have ha1 : aW w = a := by unfold aW; rw [← ho, e]; simp [fldA, ha, h8]
  have hb1 : bW w = 0 := by unfold bW; rw [← ho, e]; simp [fldB]
  have hacc := acc_r hw ho h16 hd1 ha1 hb1 hm1 (by omega) (by omega)
  rw [decV_eq ho hd1 ha1 hb1 hm1, ← hacc]
  simp -implicitDefEqProofs (disch := (first | omega | (simp -implicitDefEqProofs only [szs, ne_eq] <;> omega) | fail)) only [go_sem, seval, ↓reduceIte, reduceCtorEq, undefV, ↓s8, ↓t8, ↓cvC, cC, w2]
  refine GCall.of (((rmay49_ok _ _ _ _ _ _).kept).foot (fun _ h => h.elim) (fun _ h => h.elim)) ?_
  rintro r g1 ⟨rfl, vf1⟩
  have hc := (vf1.get (h.n + 1) (by simp only [Heap.n_push, Heap.n_set]; omega) (by simp))
  have hz := (vf1.get h.n (by simp only [Heap.n_push, Heap.n_set]; omega) (by simp))
  simp (disch := first | rfl | ((try simp only [Heap.n_push, Heap.n_set]); omega)) only [w_push_ne, w_push_eq, w_set_eq, w_set_ne] at hc hz
  have hn1 := vf1.n
  simp at hn1
  have m0 : h.n ≤ g1.n := by omega
  have m1 : h.n < g1.n := by omega
  cases hmi : mayR o 0 a 0 0 with
  | false => simp -implicitDefEqProofs (disch := (first | omega | (simp -implicitDefEqProofs only [szs, ne_eq] <;> omega) | fail)) only [go_sem, seval, ↓reduceIte, reduceCtorEq, undefV, hz]; simp [hmi]
  | true =>
    simp -implicitDefEqProofs (disch := (first | omega | (simp -implicitDefEqProofs only [szs, ne_eq] <;> omega) | fail)) only [go_sem, seval, ↓reduceIte, reduceCtorEq, hc]
    refine GCall.of (((rword57_ok (o := o) (d := 0) (a := a) (b := 0) (m := 0) ho' (by omega) (by omega) (by omega) _).kept).foot (fun _ h => h.elim) (fun _ h => h.elim)) ?_
    rintro r g2 ⟨rfl, vf2⟩
    have hc2 := (vf2.get (h.n + 1) (by omega) (by simp)).trans hc
    have hz2 := (vf2.get h.n (by omega) (by simp)).trans hz
    have hn2 := vf2.n
    have q0 : h.n ≤ g2.n := by omega
    have q1 : h.n < g2.n := by omega
    by_cases hwd : (wordR o 0 a 0 0 : Int) = (w : Int)
    · simp -implicitDefEqProofs (disch := (first | omega | (simp -implicitDefEqProofs only [szs, ne_eq] <;> omega) | fail)) only [go_sem, seval, ↓reduceIte, reduceCtorEq, undefV, hc2, hz2, hwd]; simp [hmi]
    · simp -implicitDefEqProofs (disch := (first | omega | (simp -implicitDefEqProofs only [szs, ne_eq] <;> omega) | fail)) only [go_sem, seval, ↓reduceIte, reduceCtorEq, undefV, hz2, hwd]; simp [hmi]
set_option maxHeartbeats 40000000 in
theorem rof_3 {w : Nat} (hw : w < 4294967296) (h : Heap) (e : formI (w % 256 : Nat) = 3) : SF (Try.prog : MP) 49 [.int .u32 (w : Int)] h (fun _ => False) (fun _ => False) fun v h' => v = decV w := by
  obtain ⟨o, ho⟩ : ∃ o : Nat, o = w % 256 := ⟨_, rfl⟩
  obtain ⟨y12, h12⟩ : ∃ y : Nat, y = w / 4096 := ⟨_, rfl⟩
  obtain ⟨y8, h8⟩ : ∃ y : Nat, y = w / 256 := ⟨_, rfl⟩
  obtain ⟨y, h16⟩ : ∃ y : Nat, y = w / 65536 := ⟨_, rfl⟩
  obtain ⟨d, hd⟩ : ∃ y : Nat, y = y12 % 16 := ⟨_, rfl⟩
  obtain ⟨a, ha⟩ : ∃ y : Nat, y = y8 % 16 := ⟨_, rfl⟩
  obtain ⟨b, hb⟩ : ∃ b : Nat, b = y % 256 := ⟨_, rfl⟩
  have s0 : intBin .and .u32 (w : Int) 255 = some (.int .u32 (o : Int)) := n_and (y := 255) hw (by omega) ((n_and255 w).trans ho.symm)
  have s12 : intShift .shr .u32 (w : Int) 12 = some (.int .u32 (y12 : Int)) := n_shr 12 hw h12.symm
  have s8 : intShift .shr .u32 (w : Int) 8 = some (.int .u32 (y8 : Int)) := n_shr 8 hw h8.symm
  have s16 : intShift .shr .u32 (w : Int) 16 = some (.int .u32 (y : Int)) := n_shr 16 hw h16.symm
  have t12 : intBin .and .u32 (y12 : Int) 15 = some (.int .u32 (d : Int)) := n_and (y := 15) (by omega) (by omega) ((n_and15 _).trans hd.symm)
  have t8 : intBin .and .u32 (y8 : Int) 15 = some (.int .u32 (a : Int)) := n_and (y := 15) (by omega) (by omega) ((n_and15 _).trans ha.symm)
  have t16 : intBin .and .u32 (y : Int) 255 = some (.int .u32 (b : Int)) := n_and (y := 255) (by omega) (by omega) ((n_and255 _).trans hb.symm)
  have w0 : IntKind.i64.wrap (o : Int) = o := IntWalk.i64_in _ (by omega)
  have w1 : IntKind.i64.wrap (d : Int) = d := IntWalk.i64_in _ (by omega)
  have w2 : IntKind.i64.wrap (a : Int) = a := IntWalk.i64_in _ (by omega)
  have w3 : IntKind.i64.wrap (y : Int) = y := IntWalk.i64_in _ (by omega)
  have w4 : IntKind.i64.wrap (b : Int) = b := IntWalk.i64_in _ (by omega)
  have hy' : y < 65536 := by omega
  have hd' : d < 16 := by omega
  have ha' : a < 16 := by omega
  have hb' : b < 256 := by omega
  have ho' : o < 256 := by omega
  rw [← ho] at e
  refine SF.go hm Try.func49 ir49_eq ?_
  simp -implicitDefEqProofs (disch := (first | omega | (simp -implicitDefEqProofs only [szs, ne_eq] <;> omega) | fail)) only [go_sem, seval, ↓reduceIte, reduceCtorEq, ir49, undefV, ↓s0, ↓cv25_48, c25_48, w0]
  refine GCall.of (rform_ok _ _ _ _) ?_
  rintro r g ⟨rfl, rfl⟩
  simp -implicitDefEqProofs (disch := (first | omega | (simp -implicitDefEqProofs only [szs, ne_eq] <;> omega) | fail)) only [go_sem, seval, ↓reduceIte, reduceCtorEq]
  refine GCall.of (rnames_ok _ _ _ _) ?_
  rintro r g ⟨rfl, rfl⟩
  rw [e]
  simp only [show fldD 3 = true from rfl, show fldA 3 = false from rfl, show fldB 3 = false from rfl, show fldM 3 = true from rfl]
  by_cases n6 : (o : Int) = 6
  · have hwi : wideI o = true := by rw [n6]; decide
    have q3 : intBin .neq .i64 (o : Int) 3 = some (.bool true) := by rw [n6]; rfl
    have q6 : intBin .neq .i64 (o : Int) 6 = some (.bool false) := by rw [n6]; rfl
    have hm1 : mW w = (y : Int) := by
      unfold mW; rw [← ho, e, hwi]
      simp [fldM, ← h16]
    have hd1 : dW w = d := by unfold dW; rw [← ho, e]; simp [fldD, hd, h12]
    have ha1 : aW w = 0 := by unfold aW; rw [← ho, e]; simp [fldA]
    have hb1 : bW w = 0 := by unfold bW; rw [← ho, e]; simp [fldB]
    have hacc := acc_r hw ho h16 hd1 ha1 hb1 hm1 (by omega) (by omega)
    rw [decV_eq ho hd1 ha1 hb1 hm1, ← hacc]
    simp -implicitDefEqProofs (disch := (first | omega | (simp -implicitDefEqProofs only [szs, ne_eq] <;> omega) | fail)) only [go_sem, seval, ↓reduceIte, reduceCtorEq, undefV, ↓s12, ↓s16, ↓t12, ↓cvC, cC, w1, w3, ↓q3, ↓q6]
    refine GCall.of (((rmay49_ok _ _ _ _ _ _).kept).foot (fun _ h => h.elim) (fun _ h => h.elim)) ?_
    rintro r g1 ⟨rfl, vf1⟩
    have hc := (vf1.get (h.n + 1) (by simp only [Heap.n_push, Heap.n_set]; omega) (by simp))
    have hz := (vf1.get h.n (by simp only [Heap.n_push, Heap.n_set]; omega) (by simp))
    simp (disch := first | rfl | ((try simp only [Heap.n_push, Heap.n_set]); omega)) only [w_push_ne, w_push_eq, w_set_eq, w_set_ne] at hc hz
    have hn1 := vf1.n
    simp at hn1
    have m0 : h.n ≤ g1.n := by omega
    have m1 : h.n < g1.n := by omega
    cases hmi : mayR o d 0 0 (y : Int) with
    | false => simp -implicitDefEqProofs (disch := (first | omega | (simp -implicitDefEqProofs only [szs, ne_eq] <;> omega) | fail)) only [go_sem, seval, ↓reduceIte, reduceCtorEq, undefV, hz]; simp [hmi]
    | true =>
      simp -implicitDefEqProofs (disch := (first | omega | (simp -implicitDefEqProofs only [szs, ne_eq] <;> omega) | fail)) only [go_sem, seval, ↓reduceIte, reduceCtorEq, hc]
      refine GCall.of (((rword57_ok (o := o) (d := d) (a := 0) (b := 0) (m := (y : Int)) ho' (by omega) (by omega) (by omega) _).kept).foot (fun _ h => h.elim) (fun _ h => h.elim)) ?_
      rintro r g2 ⟨rfl, vf2⟩
      have hc2 := (vf2.get (h.n + 1) (by omega) (by simp)).trans hc
      have hz2 := (vf2.get h.n (by omega) (by simp)).trans hz
      have hn2 := vf2.n
      have q0 : h.n ≤ g2.n := by omega
      have q1 : h.n < g2.n := by omega
      by_cases hwd : (wordR o d 0 0 (y : Int) : Int) = (w : Int)
      · simp -implicitDefEqProofs (disch := (first | omega | (simp -implicitDefEqProofs only [szs, ne_eq] <;> omega) | fail)) only [go_sem, seval, ↓reduceIte, reduceCtorEq, undefV, hc2, hz2, hwd]; simp [hmi]
      · simp -implicitDefEqProofs (disch := (first | omega | (simp -implicitDefEqProofs only [szs, ne_eq] <;> omega) | fail)) only [go_sem, seval, ↓reduceIte, reduceCtorEq, undefV, hz2, hwd]; simp [hmi]
  have n3 : ¬ (o : Int) = 3 := fun x => by rw [x] at e; exact absurd e (by decide)
  have hwi : wideI o = false := by unfold wideI; simp [n3, n6]
  by_cases big : 32767 < (y : Int)
  rotate_left
  · have hsx : sx y = y := by unfold sx; rw [if_pos (by omega)]
    have hm1 : mW w = (y : Int) := by
      unfold mW; rw [← ho, e, hwi]
      simp [fldM, ← h16, hsx]
    have hd1 : dW w = d := by unfold dW; rw [← ho, e]; simp [fldD, hd, h12]
    have ha1 : aW w = 0 := by unfold aW; rw [← ho, e]; simp [fldA]
    have hb1 : bW w = 0 := by unfold bW; rw [← ho, e]; simp [fldB]
    have hacc := acc_r hw ho h16 hd1 ha1 hb1 hm1 (by omega) (by omega)
    rw [decV_eq ho hd1 ha1 hb1 hm1, ← hacc]
    simp -implicitDefEqProofs (disch := (first | omega | (simp -implicitDefEqProofs only [szs, ne_eq] <;> omega) | fail)) only [go_sem, seval, ↓reduceIte, reduceCtorEq, undefV, ↓s12, ↓s16, ↓t12, ↓cvC, cC, w1, w3, big]
    refine GCall.of (((rmay49_ok _ _ _ _ _ _).kept).foot (fun _ h => h.elim) (fun _ h => h.elim)) ?_
    rintro r g1 ⟨rfl, vf1⟩
    have hc := (vf1.get (h.n + 1) (by simp only [Heap.n_push, Heap.n_set]; omega) (by simp))
    have hz := (vf1.get h.n (by simp only [Heap.n_push, Heap.n_set]; omega) (by simp))
    simp (disch := first | rfl | ((try simp only [Heap.n_push, Heap.n_set]); omega)) only [w_push_ne, w_push_eq, w_set_eq, w_set_ne] at hc hz
    have hn1 := vf1.n
    simp at hn1
    have m0 : h.n ≤ g1.n := by omega
    have m1 : h.n < g1.n := by omega
    cases hmi : mayR o d 0 0 (y : Int) with
    | false => simp -implicitDefEqProofs (disch := (first | omega | (simp -implicitDefEqProofs only [szs, ne_eq] <;> omega) | fail)) only [go_sem, seval, ↓reduceIte, reduceCtorEq, undefV, hz]; simp [hmi]
    | true =>
      simp -implicitDefEqProofs (disch := (first | omega | (simp -implicitDefEqProofs only [szs, ne_eq] <;> omega) | fail)) only [go_sem, seval, ↓reduceIte, reduceCtorEq, hc]
      refine GCall.of (((rword57_ok (o := o) (d := d) (a := 0) (b := 0) (m := (y : Int)) ho' (by omega) (by omega) (by omega) _).kept).foot (fun _ h => h.elim) (fun _ h => h.elim)) ?_
      rintro r g2 ⟨rfl, vf2⟩
      have hc2 := (vf2.get (h.n + 1) (by omega) (by simp)).trans hc
      have hz2 := (vf2.get h.n (by omega) (by simp)).trans hz
      have hn2 := vf2.n
      have q0 : h.n ≤ g2.n := by omega
      have q1 : h.n < g2.n := by omega
      by_cases hwd : (wordR o d 0 0 (y : Int) : Int) = (w : Int)
      · simp -implicitDefEqProofs (disch := (first | omega | (simp -implicitDefEqProofs only [szs, ne_eq] <;> omega) | fail)) only [go_sem, seval, ↓reduceIte, reduceCtorEq, undefV, hc2, hz2, hwd]; simp [hmi]
      · simp -implicitDefEqProofs (disch := (first | omega | (simp -implicitDefEqProofs only [szs, ne_eq] <;> omega) | fail)) only [go_sem, seval, ↓reduceIte, reduceCtorEq, undefV, hz2, hwd]; simp [hmi]
  have hsub := sx_sub hy' big
  have hm1 : mW w = sx y := by
    unfold mW; rw [← ho, e, hwi]
    simp [fldM, ← h16]
  have hd1 : dW w = d := by unfold dW; rw [← ho, e]; simp [fldD, hd, h12]
  have ha1 : aW w = 0 := by unfold aW; rw [← ho, e]; simp [fldA]
  have hb1 : bW w = 0 := by unfold bW; rw [← ho, e]; simp [fldB]
  have hacc := acc_r hw ho h16 hd1 ha1 hb1 hm1 (by omega) (by omega)
  rw [decV_eq ho hd1 ha1 hb1 hm1, ← hacc]
  simp -implicitDefEqProofs (disch := (first | omega | (simp -implicitDefEqProofs only [szs, ne_eq] <;> omega) | fail)) only [go_sem, seval, ↓reduceIte, reduceCtorEq, undefV, ↓s12, ↓s16, ↓t12, ↓cvC, cC, w1, w3, big, ↓hsub]
  refine GCall.of (((rmay49_ok _ _ _ _ _ _).kept).foot (fun _ h => h.elim) (fun _ h => h.elim)) ?_
  rintro r g1 ⟨rfl, vf1⟩
  have hc := (vf1.get (h.n + 1) (by simp only [Heap.n_push, Heap.n_set]; omega) (by simp))
  have hz := (vf1.get h.n (by simp only [Heap.n_push, Heap.n_set]; omega) (by simp))
  simp (disch := first | rfl | ((try simp only [Heap.n_push, Heap.n_set]); omega)) only [w_push_ne, w_push_eq, w_set_eq, w_set_ne] at hc hz
  have hn1 := vf1.n
  simp at hn1
  have m0 : h.n ≤ g1.n := by omega
  have m1 : h.n < g1.n := by omega
  cases hmi : mayR o d 0 0 (sx y) with
  | false => simp -implicitDefEqProofs (disch := (first | omega | (simp -implicitDefEqProofs only [szs, ne_eq] <;> omega) | fail)) only [go_sem, seval, ↓reduceIte, reduceCtorEq, undefV, hz]; simp [hmi]
  | true =>
    simp -implicitDefEqProofs (disch := (first | omega | (simp -implicitDefEqProofs only [szs, ne_eq] <;> omega) | fail)) only [go_sem, seval, ↓reduceIte, reduceCtorEq, hc]
    refine GCall.of (((rword57_ok (o := o) (d := d) (a := 0) (b := 0) (m := sx y) ho' (by omega) (by omega) (by omega) _).kept).foot (fun _ h => h.elim) (fun _ h => h.elim)) ?_
    rintro r g2 ⟨rfl, vf2⟩
    have hc2 := (vf2.get (h.n + 1) (by omega) (by simp)).trans hc
    have hz2 := (vf2.get h.n (by omega) (by simp)).trans hz
    have hn2 := vf2.n
    have q0 : h.n ≤ g2.n := by omega
    have q1 : h.n < g2.n := by omega
    by_cases hwd : (wordR o d 0 0 (sx y) : Int) = (w : Int)
    · simp -implicitDefEqProofs (disch := (first | omega | (simp -implicitDefEqProofs only [szs, ne_eq] <;> omega) | fail)) only [go_sem, seval, ↓reduceIte, reduceCtorEq, undefV, hc2, hz2, hwd]; simp [hmi]
    · simp -implicitDefEqProofs (disch := (first | omega | (simp -implicitDefEqProofs only [szs, ne_eq] <;> omega) | fail)) only [go_sem, seval, ↓reduceIte, reduceCtorEq, undefV, hz2, hwd]; simp [hmi]
set_option maxHeartbeats 40000000 in
theorem rof_4 {w : Nat} (hw : w < 4294967296) (h : Heap) (e : formI (w % 256 : Nat) = 4) : SF (Try.prog : MP) 49 [.int .u32 (w : Int)] h (fun _ => False) (fun _ => False) fun v h' => v = decV w := by
  obtain ⟨o, ho⟩ : ∃ o : Nat, o = w % 256 := ⟨_, rfl⟩
  obtain ⟨y12, h12⟩ : ∃ y : Nat, y = w / 4096 := ⟨_, rfl⟩
  obtain ⟨y8, h8⟩ : ∃ y : Nat, y = w / 256 := ⟨_, rfl⟩
  obtain ⟨y, h16⟩ : ∃ y : Nat, y = w / 65536 := ⟨_, rfl⟩
  obtain ⟨d, hd⟩ : ∃ y : Nat, y = y12 % 16 := ⟨_, rfl⟩
  obtain ⟨a, ha⟩ : ∃ y : Nat, y = y8 % 16 := ⟨_, rfl⟩
  obtain ⟨b, hb⟩ : ∃ b : Nat, b = y % 256 := ⟨_, rfl⟩
  have s0 : intBin .and .u32 (w : Int) 255 = some (.int .u32 (o : Int)) := n_and (y := 255) hw (by omega) ((n_and255 w).trans ho.symm)
  have s12 : intShift .shr .u32 (w : Int) 12 = some (.int .u32 (y12 : Int)) := n_shr 12 hw h12.symm
  have s8 : intShift .shr .u32 (w : Int) 8 = some (.int .u32 (y8 : Int)) := n_shr 8 hw h8.symm
  have s16 : intShift .shr .u32 (w : Int) 16 = some (.int .u32 (y : Int)) := n_shr 16 hw h16.symm
  have t12 : intBin .and .u32 (y12 : Int) 15 = some (.int .u32 (d : Int)) := n_and (y := 15) (by omega) (by omega) ((n_and15 _).trans hd.symm)
  have t8 : intBin .and .u32 (y8 : Int) 15 = some (.int .u32 (a : Int)) := n_and (y := 15) (by omega) (by omega) ((n_and15 _).trans ha.symm)
  have t16 : intBin .and .u32 (y : Int) 255 = some (.int .u32 (b : Int)) := n_and (y := 255) (by omega) (by omega) ((n_and255 _).trans hb.symm)
  have w0 : IntKind.i64.wrap (o : Int) = o := IntWalk.i64_in _ (by omega)
  have w1 : IntKind.i64.wrap (d : Int) = d := IntWalk.i64_in _ (by omega)
  have w2 : IntKind.i64.wrap (a : Int) = a := IntWalk.i64_in _ (by omega)
  have w3 : IntKind.i64.wrap (y : Int) = y := IntWalk.i64_in _ (by omega)
  have w4 : IntKind.i64.wrap (b : Int) = b := IntWalk.i64_in _ (by omega)
  have hy' : y < 65536 := by omega
  have hd' : d < 16 := by omega
  have ha' : a < 16 := by omega
  have hb' : b < 256 := by omega
  have ho' : o < 256 := by omega
  rw [← ho] at e
  refine SF.go hm Try.func49 ir49_eq ?_
  simp -implicitDefEqProofs (disch := (first | omega | (simp -implicitDefEqProofs only [szs, ne_eq] <;> omega) | fail)) only [go_sem, seval, ↓reduceIte, reduceCtorEq, ir49, undefV, ↓s0, ↓cv25_48, c25_48, w0]
  refine GCall.of (rform_ok _ _ _ _) ?_
  rintro r g ⟨rfl, rfl⟩
  simp -implicitDefEqProofs (disch := (first | omega | (simp -implicitDefEqProofs only [szs, ne_eq] <;> omega) | fail)) only [go_sem, seval, ↓reduceIte, reduceCtorEq]
  refine GCall.of (rnames_ok _ _ _ _) ?_
  rintro r g ⟨rfl, rfl⟩
  rw [e]
  simp only [show fldD 4 = true from rfl, show fldA 4 = true from rfl, show fldB 4 = false from rfl, show fldM 4 = false from rfl]
  have hm1 : mW w = 0 := by
    unfold mW; rw [← ho, e]
    simp [fldM]
  have hd1 : dW w = d := by unfold dW; rw [← ho, e]; simp [fldD, hd, h12]
  have ha1 : aW w = a := by unfold aW; rw [← ho, e]; simp [fldA, ha, h8]
  have hb1 : bW w = 0 := by unfold bW; rw [← ho, e]; simp [fldB]
  have hacc := acc_r hw ho h16 hd1 ha1 hb1 hm1 (by omega) (by omega)
  rw [decV_eq ho hd1 ha1 hb1 hm1, ← hacc]
  simp -implicitDefEqProofs (disch := (first | omega | (simp -implicitDefEqProofs only [szs, ne_eq] <;> omega) | fail)) only [go_sem, seval, ↓reduceIte, reduceCtorEq, undefV, ↓s12, ↓s8, ↓t12, ↓t8, ↓cvC, cC, w1, w2]
  refine GCall.of (((rmay49_ok _ _ _ _ _ _).kept).foot (fun _ h => h.elim) (fun _ h => h.elim)) ?_
  rintro r g1 ⟨rfl, vf1⟩
  have hc := (vf1.get (h.n + 1) (by simp only [Heap.n_push, Heap.n_set]; omega) (by simp))
  have hz := (vf1.get h.n (by simp only [Heap.n_push, Heap.n_set]; omega) (by simp))
  simp (disch := first | rfl | ((try simp only [Heap.n_push, Heap.n_set]); omega)) only [w_push_ne, w_push_eq, w_set_eq, w_set_ne] at hc hz
  have hn1 := vf1.n
  simp at hn1
  have m0 : h.n ≤ g1.n := by omega
  have m1 : h.n < g1.n := by omega
  cases hmi : mayR o d a 0 0 with
  | false => simp -implicitDefEqProofs (disch := (first | omega | (simp -implicitDefEqProofs only [szs, ne_eq] <;> omega) | fail)) only [go_sem, seval, ↓reduceIte, reduceCtorEq, undefV, hz]; simp [hmi]
  | true =>
    simp -implicitDefEqProofs (disch := (first | omega | (simp -implicitDefEqProofs only [szs, ne_eq] <;> omega) | fail)) only [go_sem, seval, ↓reduceIte, reduceCtorEq, hc]
    refine GCall.of (((rword57_ok (o := o) (d := d) (a := a) (b := 0) (m := 0) ho' (by omega) (by omega) (by omega) _).kept).foot (fun _ h => h.elim) (fun _ h => h.elim)) ?_
    rintro r g2 ⟨rfl, vf2⟩
    have hc2 := (vf2.get (h.n + 1) (by omega) (by simp)).trans hc
    have hz2 := (vf2.get h.n (by omega) (by simp)).trans hz
    have hn2 := vf2.n
    have q0 : h.n ≤ g2.n := by omega
    have q1 : h.n < g2.n := by omega
    by_cases hwd : (wordR o d a 0 0 : Int) = (w : Int)
    · simp -implicitDefEqProofs (disch := (first | omega | (simp -implicitDefEqProofs only [szs, ne_eq] <;> omega) | fail)) only [go_sem, seval, ↓reduceIte, reduceCtorEq, undefV, hc2, hz2, hwd]; simp [hmi]
    · simp -implicitDefEqProofs (disch := (first | omega | (simp -implicitDefEqProofs only [szs, ne_eq] <;> omega) | fail)) only [go_sem, seval, ↓reduceIte, reduceCtorEq, undefV, hz2, hwd]; simp [hmi]
set_option maxHeartbeats 40000000 in
theorem rof_5 {w : Nat} (hw : w < 4294967296) (h : Heap) (e : formI (w % 256 : Nat) = 5) : SF (Try.prog : MP) 49 [.int .u32 (w : Int)] h (fun _ => False) (fun _ => False) fun v h' => v = decV w := by
  obtain ⟨o, ho⟩ : ∃ o : Nat, o = w % 256 := ⟨_, rfl⟩
  obtain ⟨y12, h12⟩ : ∃ y : Nat, y = w / 4096 := ⟨_, rfl⟩
  obtain ⟨y8, h8⟩ : ∃ y : Nat, y = w / 256 := ⟨_, rfl⟩
  obtain ⟨y, h16⟩ : ∃ y : Nat, y = w / 65536 := ⟨_, rfl⟩
  obtain ⟨d, hd⟩ : ∃ y : Nat, y = y12 % 16 := ⟨_, rfl⟩
  obtain ⟨a, ha⟩ : ∃ y : Nat, y = y8 % 16 := ⟨_, rfl⟩
  obtain ⟨b, hb⟩ : ∃ b : Nat, b = y % 256 := ⟨_, rfl⟩
  have s0 : intBin .and .u32 (w : Int) 255 = some (.int .u32 (o : Int)) := n_and (y := 255) hw (by omega) ((n_and255 w).trans ho.symm)
  have s12 : intShift .shr .u32 (w : Int) 12 = some (.int .u32 (y12 : Int)) := n_shr 12 hw h12.symm
  have s8 : intShift .shr .u32 (w : Int) 8 = some (.int .u32 (y8 : Int)) := n_shr 8 hw h8.symm
  have s16 : intShift .shr .u32 (w : Int) 16 = some (.int .u32 (y : Int)) := n_shr 16 hw h16.symm
  have t12 : intBin .and .u32 (y12 : Int) 15 = some (.int .u32 (d : Int)) := n_and (y := 15) (by omega) (by omega) ((n_and15 _).trans hd.symm)
  have t8 : intBin .and .u32 (y8 : Int) 15 = some (.int .u32 (a : Int)) := n_and (y := 15) (by omega) (by omega) ((n_and15 _).trans ha.symm)
  have t16 : intBin .and .u32 (y : Int) 255 = some (.int .u32 (b : Int)) := n_and (y := 255) (by omega) (by omega) ((n_and255 _).trans hb.symm)
  have w0 : IntKind.i64.wrap (o : Int) = o := IntWalk.i64_in _ (by omega)
  have w1 : IntKind.i64.wrap (d : Int) = d := IntWalk.i64_in _ (by omega)
  have w2 : IntKind.i64.wrap (a : Int) = a := IntWalk.i64_in _ (by omega)
  have w3 : IntKind.i64.wrap (y : Int) = y := IntWalk.i64_in _ (by omega)
  have w4 : IntKind.i64.wrap (b : Int) = b := IntWalk.i64_in _ (by omega)
  have hy' : y < 65536 := by omega
  have hd' : d < 16 := by omega
  have ha' : a < 16 := by omega
  have hb' : b < 256 := by omega
  have ho' : o < 256 := by omega
  rw [← ho] at e
  refine SF.go hm Try.func49 ir49_eq ?_
  simp -implicitDefEqProofs (disch := (first | omega | (simp -implicitDefEqProofs only [szs, ne_eq] <;> omega) | fail)) only [go_sem, seval, ↓reduceIte, reduceCtorEq, ir49, undefV, ↓s0, ↓cv25_48, c25_48, w0]
  refine GCall.of (rform_ok _ _ _ _) ?_
  rintro r g ⟨rfl, rfl⟩
  simp -implicitDefEqProofs (disch := (first | omega | (simp -implicitDefEqProofs only [szs, ne_eq] <;> omega) | fail)) only [go_sem, seval, ↓reduceIte, reduceCtorEq]
  refine GCall.of (rnames_ok _ _ _ _) ?_
  rintro r g ⟨rfl, rfl⟩
  rw [e]
  simp only [show fldD 5 = true from rfl, show fldA 5 = true from rfl, show fldB 5 = true from rfl, show fldM 5 = false from rfl]
  have hm1 : mW w = 0 := by
    unfold mW; rw [← ho, e]
    simp [fldM]
  have hd1 : dW w = d := by unfold dW; rw [← ho, e]; simp [fldD, hd, h12]
  have ha1 : aW w = a := by unfold aW; rw [← ho, e]; simp [fldA, ha, h8]
  have hb1 : bW w = y := by unfold bW; rw [← ho, e]; simp [fldB, h16]
  have hacc := acc_r hw ho h16 hd1 ha1 hb1 hm1 (by omega) (by omega)
  rw [decV_eq ho hd1 ha1 hb1 hm1, ← hacc, ← hb]
  simp -implicitDefEqProofs (disch := (first | omega | (simp -implicitDefEqProofs only [szs, ne_eq] <;> omega) | fail)) only [go_sem, seval, ↓reduceIte, reduceCtorEq, undefV, ↓s12, ↓s8, ↓s16, ↓t12, ↓t8, ↓t16, ↓cvC, cC, w1, w2, w4]
  refine GCall.of (((rmay49_ok _ _ _ _ _ _).kept).foot (fun _ h => h.elim) (fun _ h => h.elim)) ?_
  rintro r g1 ⟨rfl, vf1⟩
  have hc := (vf1.get (h.n + 1) (by simp only [Heap.n_push, Heap.n_set]; omega) (by simp))
  have hz := (vf1.get h.n (by simp only [Heap.n_push, Heap.n_set]; omega) (by simp))
  simp (disch := first | rfl | ((try simp only [Heap.n_push, Heap.n_set]); omega)) only [w_push_ne, w_push_eq, w_set_eq, w_set_ne] at hc hz
  have hn1 := vf1.n
  simp at hn1
  have m0 : h.n ≤ g1.n := by omega
  have m1 : h.n < g1.n := by omega
  cases hmi : mayR o d a b 0 with
  | false => simp -implicitDefEqProofs (disch := (first | omega | (simp -implicitDefEqProofs only [szs, ne_eq] <;> omega) | fail)) only [go_sem, seval, ↓reduceIte, reduceCtorEq, undefV, hz]; simp [hmi]
  | true =>
    simp -implicitDefEqProofs (disch := (first | omega | (simp -implicitDefEqProofs only [szs, ne_eq] <;> omega) | fail)) only [go_sem, seval, ↓reduceIte, reduceCtorEq, hc]
    refine GCall.of (((rword57_ok (o := o) (d := d) (a := a) (b := b) (m := 0) ho' (by omega) (by omega) (by omega) _).kept).foot (fun _ h => h.elim) (fun _ h => h.elim)) ?_
    rintro r g2 ⟨rfl, vf2⟩
    have hc2 := (vf2.get (h.n + 1) (by omega) (by simp)).trans hc
    have hz2 := (vf2.get h.n (by omega) (by simp)).trans hz
    have hn2 := vf2.n
    have q0 : h.n ≤ g2.n := by omega
    have q1 : h.n < g2.n := by omega
    by_cases hwd : (wordR o d a b 0 : Int) = (w : Int)
    · simp -implicitDefEqProofs (disch := (first | omega | (simp -implicitDefEqProofs only [szs, ne_eq] <;> omega) | fail)) only [go_sem, seval, ↓reduceIte, reduceCtorEq, undefV, hc2, hz2, hwd]; simp [hmi]
      unfold wordR at hwd; rw [if_pos e] at hwd; omega
    · simp -implicitDefEqProofs (disch := (first | omega | (simp -implicitDefEqProofs only [szs, ne_eq] <;> omega) | fail)) only [go_sem, seval, ↓reduceIte, reduceCtorEq, undefV, hz2, hwd]; simp [hmi]
set_option maxHeartbeats 40000000 in
theorem rof_6 {w : Nat} (hw : w < 4294967296) (h : Heap) (e : formI (w % 256 : Nat) = 6) : SF (Try.prog : MP) 49 [.int .u32 (w : Int)] h (fun _ => False) (fun _ => False) fun v h' => v = decV w := by
  obtain ⟨o, ho⟩ : ∃ o : Nat, o = w % 256 := ⟨_, rfl⟩
  obtain ⟨y12, h12⟩ : ∃ y : Nat, y = w / 4096 := ⟨_, rfl⟩
  obtain ⟨y8, h8⟩ : ∃ y : Nat, y = w / 256 := ⟨_, rfl⟩
  obtain ⟨y, h16⟩ : ∃ y : Nat, y = w / 65536 := ⟨_, rfl⟩
  obtain ⟨d, hd⟩ : ∃ y : Nat, y = y12 % 16 := ⟨_, rfl⟩
  obtain ⟨a, ha⟩ : ∃ y : Nat, y = y8 % 16 := ⟨_, rfl⟩
  obtain ⟨b, hb⟩ : ∃ b : Nat, b = y % 256 := ⟨_, rfl⟩
  have s0 : intBin .and .u32 (w : Int) 255 = some (.int .u32 (o : Int)) := n_and (y := 255) hw (by omega) ((n_and255 w).trans ho.symm)
  have s12 : intShift .shr .u32 (w : Int) 12 = some (.int .u32 (y12 : Int)) := n_shr 12 hw h12.symm
  have s8 : intShift .shr .u32 (w : Int) 8 = some (.int .u32 (y8 : Int)) := n_shr 8 hw h8.symm
  have s16 : intShift .shr .u32 (w : Int) 16 = some (.int .u32 (y : Int)) := n_shr 16 hw h16.symm
  have t12 : intBin .and .u32 (y12 : Int) 15 = some (.int .u32 (d : Int)) := n_and (y := 15) (by omega) (by omega) ((n_and15 _).trans hd.symm)
  have t8 : intBin .and .u32 (y8 : Int) 15 = some (.int .u32 (a : Int)) := n_and (y := 15) (by omega) (by omega) ((n_and15 _).trans ha.symm)
  have t16 : intBin .and .u32 (y : Int) 255 = some (.int .u32 (b : Int)) := n_and (y := 255) (by omega) (by omega) ((n_and255 _).trans hb.symm)
  have w0 : IntKind.i64.wrap (o : Int) = o := IntWalk.i64_in _ (by omega)
  have w1 : IntKind.i64.wrap (d : Int) = d := IntWalk.i64_in _ (by omega)
  have w2 : IntKind.i64.wrap (a : Int) = a := IntWalk.i64_in _ (by omega)
  have w3 : IntKind.i64.wrap (y : Int) = y := IntWalk.i64_in _ (by omega)
  have w4 : IntKind.i64.wrap (b : Int) = b := IntWalk.i64_in _ (by omega)
  have hy' : y < 65536 := by omega
  have hd' : d < 16 := by omega
  have ha' : a < 16 := by omega
  have hb' : b < 256 := by omega
  have ho' : o < 256 := by omega
  rw [← ho] at e
  refine SF.go hm Try.func49 ir49_eq ?_
  simp -implicitDefEqProofs (disch := (first | omega | (simp -implicitDefEqProofs only [szs, ne_eq] <;> omega) | fail)) only [go_sem, seval, ↓reduceIte, reduceCtorEq, ir49, undefV, ↓s0, ↓cv25_48, c25_48, w0]
  refine GCall.of (rform_ok _ _ _ _) ?_
  rintro r g ⟨rfl, rfl⟩
  simp -implicitDefEqProofs (disch := (first | omega | (simp -implicitDefEqProofs only [szs, ne_eq] <;> omega) | fail)) only [go_sem, seval, ↓reduceIte, reduceCtorEq]
  refine GCall.of (rnames_ok _ _ _ _) ?_
  rintro r g ⟨rfl, rfl⟩
  rw [e]
  simp only [show fldD 6 = true from rfl, show fldA 6 = true from rfl, show fldB 6 = false from rfl, show fldM 6 = true from rfl]
  have n3 : ¬ (o : Int) = 3 := fun x => by rw [x] at e; exact absurd e (by decide)
  have n6 : ¬ (o : Int) = 6 := fun x => by rw [x] at e; exact absurd e (by decide)
  have hwi : wideI o = false := by unfold wideI; simp [n3, n6]
  by_cases big : 32767 < (y : Int)
  rotate_left
  · have hsx : sx y = y := by unfold sx; rw [if_pos (by omega)]
    have hm1 : mW w = (y : Int) := by
      unfold mW; rw [← ho, e, hwi]
      simp [fldM, ← h16, hsx]
    have hd1 : dW w = d := by unfold dW; rw [← ho, e]; simp [fldD, hd, h12]
    have ha1 : aW w = a := by unfold aW; rw [← ho, e]; simp [fldA, ha, h8]
    have hb1 : bW w = 0 := by unfold bW; rw [← ho, e]; simp [fldB]
    have hacc := acc_r hw ho h16 hd1 ha1 hb1 hm1 (by omega) (by omega)
    rw [decV_eq ho hd1 ha1 hb1 hm1, ← hacc]
    simp -implicitDefEqProofs (disch := (first | omega | (simp -implicitDefEqProofs only [szs, ne_eq] <;> omega) | fail)) only [go_sem, seval, ↓reduceIte, reduceCtorEq, undefV, ↓s12, ↓s8, ↓s16, ↓t12, ↓t8, ↓cvC, cC, w1, w2, w3, big]
    refine GCall.of (((rmay49_ok _ _ _ _ _ _).kept).foot (fun _ h => h.elim) (fun _ h => h.elim)) ?_
    rintro r g1 ⟨rfl, vf1⟩
    have hc := (vf1.get (h.n + 1) (by simp only [Heap.n_push, Heap.n_set]; omega) (by simp))
    have hz := (vf1.get h.n (by simp only [Heap.n_push, Heap.n_set]; omega) (by simp))
    simp (disch := first | rfl | ((try simp only [Heap.n_push, Heap.n_set]); omega)) only [w_push_ne, w_push_eq, w_set_eq, w_set_ne] at hc hz
    have hn1 := vf1.n
    simp at hn1
    have m0 : h.n ≤ g1.n := by omega
    have m1 : h.n < g1.n := by omega
    cases hmi : mayR o d a 0 (y : Int) with
    | false => simp -implicitDefEqProofs (disch := (first | omega | (simp -implicitDefEqProofs only [szs, ne_eq] <;> omega) | fail)) only [go_sem, seval, ↓reduceIte, reduceCtorEq, undefV, hz]; simp [hmi]
    | true =>
      simp -implicitDefEqProofs (disch := (first | omega | (simp -implicitDefEqProofs only [szs, ne_eq] <;> omega) | fail)) only [go_sem, seval, ↓reduceIte, reduceCtorEq, hc]
      refine GCall.of (((rword57_ok (o := o) (d := d) (a := a) (b := 0) (m := (y : Int)) ho' (by omega) (by omega) (by omega) _).kept).foot (fun _ h => h.elim) (fun _ h => h.elim)) ?_
      rintro r g2 ⟨rfl, vf2⟩
      have hc2 := (vf2.get (h.n + 1) (by omega) (by simp)).trans hc
      have hz2 := (vf2.get h.n (by omega) (by simp)).trans hz
      have hn2 := vf2.n
      have q0 : h.n ≤ g2.n := by omega
      have q1 : h.n < g2.n := by omega
      by_cases hwd : (wordR o d a 0 (y : Int) : Int) = (w : Int)
      · simp -implicitDefEqProofs (disch := (first | omega | (simp -implicitDefEqProofs only [szs, ne_eq] <;> omega) | fail)) only [go_sem, seval, ↓reduceIte, reduceCtorEq, undefV, hc2, hz2, hwd]; simp [hmi]
      · simp -implicitDefEqProofs (disch := (first | omega | (simp -implicitDefEqProofs only [szs, ne_eq] <;> omega) | fail)) only [go_sem, seval, ↓reduceIte, reduceCtorEq, undefV, hz2, hwd]; simp [hmi]
  have hsub := sx_sub hy' big
  have hm1 : mW w = sx y := by
    unfold mW; rw [← ho, e, hwi]
    simp [fldM, ← h16]
  have hd1 : dW w = d := by unfold dW; rw [← ho, e]; simp [fldD, hd, h12]
  have ha1 : aW w = a := by unfold aW; rw [← ho, e]; simp [fldA, ha, h8]
  have hb1 : bW w = 0 := by unfold bW; rw [← ho, e]; simp [fldB]
  have hacc := acc_r hw ho h16 hd1 ha1 hb1 hm1 (by omega) (by omega)
  rw [decV_eq ho hd1 ha1 hb1 hm1, ← hacc]
  simp -implicitDefEqProofs (disch := (first | omega | (simp -implicitDefEqProofs only [szs, ne_eq] <;> omega) | fail)) only [go_sem, seval, ↓reduceIte, reduceCtorEq, undefV, ↓s12, ↓s8, ↓s16, ↓t12, ↓t8, ↓cvC, cC, w1, w2, w3, big, ↓hsub]
  refine GCall.of (((rmay49_ok _ _ _ _ _ _).kept).foot (fun _ h => h.elim) (fun _ h => h.elim)) ?_
  rintro r g1 ⟨rfl, vf1⟩
  have hc := (vf1.get (h.n + 1) (by simp only [Heap.n_push, Heap.n_set]; omega) (by simp))
  have hz := (vf1.get h.n (by simp only [Heap.n_push, Heap.n_set]; omega) (by simp))
  simp (disch := first | rfl | ((try simp only [Heap.n_push, Heap.n_set]); omega)) only [w_push_ne, w_push_eq, w_set_eq, w_set_ne] at hc hz
  have hn1 := vf1.n
  simp at hn1
  have m0 : h.n ≤ g1.n := by omega
  have m1 : h.n < g1.n := by omega
  cases hmi : mayR o d a 0 (sx y) with
  | false => simp -implicitDefEqProofs (disch := (first | omega | (simp -implicitDefEqProofs only [szs, ne_eq] <;> omega) | fail)) only [go_sem, seval, ↓reduceIte, reduceCtorEq, undefV, hz]; simp [hmi]
  | true =>
    simp -implicitDefEqProofs (disch := (first | omega | (simp -implicitDefEqProofs only [szs, ne_eq] <;> omega) | fail)) only [go_sem, seval, ↓reduceIte, reduceCtorEq, hc]
    refine GCall.of (((rword57_ok (o := o) (d := d) (a := a) (b := 0) (m := sx y) ho' (by omega) (by omega) (by omega) _).kept).foot (fun _ h => h.elim) (fun _ h => h.elim)) ?_
    rintro r g2 ⟨rfl, vf2⟩
    have hc2 := (vf2.get (h.n + 1) (by omega) (by simp)).trans hc
    have hz2 := (vf2.get h.n (by omega) (by simp)).trans hz
    have hn2 := vf2.n
    have q0 : h.n ≤ g2.n := by omega
    have q1 : h.n < g2.n := by omega
    by_cases hwd : (wordR o d a 0 (sx y) : Int) = (w : Int)
    · simp -implicitDefEqProofs (disch := (first | omega | (simp -implicitDefEqProofs only [szs, ne_eq] <;> omega) | fail)) only [go_sem, seval, ↓reduceIte, reduceCtorEq, undefV, hc2, hz2, hwd]; simp [hmi]
    · simp -implicitDefEqProofs (disch := (first | omega | (simp -implicitDefEqProofs only [szs, ne_eq] <;> omega) | fail)) only [go_sem, seval, ↓reduceIte, reduceCtorEq, undefV, hz2, hwd]; simp [hmi]
theorem rof_ok {w : Nat} (hw : w < 4294967296) (h : Heap) : SF (Try.prog : MP) 49 [.int .u32 (w : Int)] h (fun _ => False) (fun _ => False) fun v h' => v = decV w := by
  rcases formI_in (w % 256 : Nat) with e | e | e | e | e | e | e
  · exact rof_0 hw h e
  · exact rof_1 hw h e
  · exact rof_2 hw h e
  · exact rof_3 hw h e
  · exact rof_4 hw h e
  · exact rof_5 hw h e
  · exact rof_6 hw h e
end Go.Proofs.Ytmkdbninmimndaa
