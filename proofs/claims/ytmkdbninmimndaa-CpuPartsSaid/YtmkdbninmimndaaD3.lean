/- May an instruction be? (printed by genD3.py) -/
import Derived.Test.YtmkdbninmimndaaD2
set_option linter.unusedVariables false
set_option maxRecDepth 100000
namespace Go.Proofs.Ytmkdbninmimndaa
open Go Go.Vm
def loI (op : Int) : Int := if wideI op then 0 else -32768
def hiI (op : Int) : Int := if wideI op then 65535 else 32767
def mayI (op d a b imm : Int) : Bool := decide (1 ≤ op ∧ op ≤ 28) && ((fldD (formI op) || d == 0) && (fldA (formI op) || a == 0) && (fldB (formI op) || b == 0) && (fldM (formI op) || imm == 0)) && decide (0 ≤ d ∧ d < 16) && decide (0 ≤ a ∧ a < 16) && decide (0 ≤ b ∧ b < 16) && decide (loI op ≤ imm) && decide (imm ≤ hiI op)
abbrev insV (op d a b imm : Int) : V := .agg [.int .i64 op, .int .i64 d, .int .i64 a, .int .i64 b, .int .i64 imm]
theorem wide_form {op : Int} (h : wideI op = true) : formI op = 1 ∨ formI op = 3 := by
  unfold wideI at h
  simp at h
  rcases h with rfl | rfl
  · exact .inl (by decide)
  · exact .inr (by decide)
theorem form_in {op : Int} (h : formI op ≠ 0) : 1 ≤ op ∧ op ≤ 28 := by
  unfold formI at h
  (repeat' split at h) <;> first | omega | exact absurd rfl h
theorem eg_50 : Try.prog.eqGuardType Try.prog.depth 50 = false := by kernel_rfl
theorem e_50 (x x1 x2 x3 x4 y y1 y2 y3 y4 : Int) : eqD Try.prog 10 50 (insV x x1 x2 x3 x4) (insV y y1 y2 y3 y4) = (match (x == y) with | true => (match (x1 == y1) with | true => (match (x2 == y2) with | true => (match (x3 == y3) with | true => (match (x4 == y4) with | true => some true | false => some false) | false => some false) | false => some false) | false => some false) | false => some false) := by kernel_rfl
theorem bq_ne {x : Int} (h : x ≠ 0) : (x == 0) = false := by simpa using h
theorem bq_self (x : Int) : (x == x) = true := by simp
set_option maxHeartbeats 40000000 in
theorem imay_0 {op : Int} (d a b imm : Int) (h : Heap) (e : formI op = 0) : SF (Try.prog : MP) 58 [insV op d a b imm] h (fun _ => False) (fun _ => False) fun v h' => v = .bool (mayI op d a b imm) := by
  unfold mayI loI hiI
  refine SF.go hm Try.func58 ir58_eq ?_
  simp -implicitDefEqProofs (disch := (first | omega | (simp -implicitDefEqProofs only [szs, ne_eq] <;> omega) | fail)) only [go_sem, seval, ↓reduceIte, reduceCtorEq, ir58, undefV]
  refine GCall.of (form_ok op _ _ _) ?_
  rintro r g ⟨rfl, rfl⟩
  simp -implicitDefEqProofs (disch := (first | omega | (simp -implicitDefEqProofs only [szs, ne_eq] <;> omega) | fail)) only [go_sem, seval, ↓reduceIte, reduceCtorEq]
  refine GCall.of (((named_ok op _ (fun _ => False) (fun _ => False)).kept).foot (fun _ h => h.elim) (fun _ h => h.elim)) ?_
  rintro r g ⟨rfl, vf⟩
  have hb := (vf.get h.n (by simp) (by simp)).trans (w_push_eq rfl _)
  have hn := vf.n
  simp at hn
  have n0 : h.n ≤ g.n := by omega
  have n1 : h.n ≤ g.n + 1 := by omega
  rw [e]
  simp only [show fldD 0 = false from rfl, show fldA 0 = false from rfl, show fldB 0 = false from rfl, show fldM 0 = false from rfl]
  have hw : wideI op = false := by cases hw : wideI op with
    | false => rfl
    | true => rcases wide_form hw with x | x <;> rw [x] at e <;> simp at e
  simp -implicitDefEqProofs (disch := (first | omega | (simp -implicitDefEqProofs only [szs, ne_eq] <;> omega) | fail)) only [go_sem, seval, ↓reduceIte, reduceCtorEq, undefV, hb, n0, n1]
  refine GCall.of (wide_ok op _ _ _) ?_
  rintro r g1 ⟨rfl, rfl⟩
  rw [hw]
  simp -implicitDefEqProofs (disch := (first | omega | (simp -implicitDefEqProofs only [szs, ne_eq] <;> omega) | fail)) only [go_sem, seval, ↓reduceIte, reduceCtorEq, undefV, hb]
  refine GCall.of (((name_ok op _ (fun _ => False) (fun _ => False)).kept).foot (fun _ h => h.elim) (fun _ h => h.elim)) ?_
  rintro r g1 ⟨⟨s, rfl, hs⟩, vf1⟩
  have hb1 := (vf1.get h.n (by simp; omega) (by simp))
  have hb2 := (vf1.get (g.n + 1) (by simp) (by simp))
  have hm1 := vf1.n
  simp (disch := first | rfl | ((try simp only [Heap.n_push, Heap.n_set]); omega)) only [w_push_ne, w_set_eq, w_set_ne, hb] at hb1 hb2
  simp only [Heap.n_push, Heap.n_set] at hm1
  have m0 : h.n ≤ g1.n := by omega
  by_cases hi : 1 ≤ op ∧ op ≤ 28
  rotate_left
  · rw [decide_eq_false hi] at hs
    simp -implicitDefEqProofs (disch := (first | omega | (simp -implicitDefEqProofs only [szs, ne_eq] <;> omega) | fail)) only [go_sem, seval, ↓reduceIte, reduceCtorEq, undefV, hs]
    rw [decide_eq_false hi]; rfl
  rw [decide_eq_true hi] at hs ⊢
  by_cases z_d : d = 0
  rotate_left
  · simp -implicitDefEqProofs (disch := (first | omega | (simp -implicitDefEqProofs only [szs, ne_eq] <;> omega) | fail)) only [go_sem, seval, ↓reduceIte, reduceCtorEq, undefV, hb1, hb2, hs, n1, eg_50, e_50, bq_self, bq_ne z_d]
    simp [z_d]
  subst z_d
  by_cases z_a : a = 0
  rotate_left
  · simp -implicitDefEqProofs (disch := (first | omega | (simp -implicitDefEqProofs only [szs, ne_eq] <;> omega) | fail)) only [go_sem, seval, ↓reduceIte, reduceCtorEq, undefV, hb1, hb2, hs, n1, eg_50, e_50, bq_self, bq_ne z_a]
    simp [z_a]
  subst z_a
  by_cases z_b : b = 0
  rotate_left
  · simp -implicitDefEqProofs (disch := (first | omega | (simp -implicitDefEqProofs only [szs, ne_eq] <;> omega) | fail)) only [go_sem, seval, ↓reduceIte, reduceCtorEq, undefV, hb1, hb2, hs, n1, eg_50, e_50, bq_self, bq_ne z_b]
    simp [z_b]
  subst z_b
  by_cases z_imm : imm = 0
  rotate_left
  · simp -implicitDefEqProofs (disch := (first | omega | (simp -implicitDefEqProofs only [szs, ne_eq] <;> omega) | fail)) only [go_sem, seval, ↓reduceIte, reduceCtorEq, undefV, hb1, hb2, hs, n1, eg_50, e_50, bq_self, bq_ne z_imm]
    simp [z_imm]
  subst z_imm
  simp -implicitDefEqProofs (disch := (first | omega | (simp -implicitDefEqProofs only [szs, ne_eq] <;> omega) | fail)) only [go_sem, seval, ↓reduceIte, reduceCtorEq, undefV, hb1, hb2, hs, n1, eg_50, e_50, bq_self]
  refine GCall.of (ireg_ok _ _ _ _) ?_
  rintro r g2 ⟨rfl, rfl⟩
  rw [decide_eq_true (show (0 : Int) ≤ 0 ∧ (0 : Int) < 16 by decide)]
  simp -implicitDefEqProofs (disch := (first | omega | (simp -implicitDefEqProofs only [szs, ne_eq] <;> omega) | fail)) only [go_sem, seval, ↓reduceIte, reduceCtorEq, undefV, hb1]
  refine GCall.of (ireg_ok _ _ _ _) ?_
  rintro r g2 ⟨rfl, rfl⟩
  rw [decide_eq_true (show (0 : Int) ≤ 0 ∧ (0 : Int) < 16 by decide)]
  simp -implicitDefEqProofs (disch := (first | omega | (simp -implicitDefEqProofs only [szs, ne_eq] <;> omega) | fail)) only [go_sem, seval, ↓reduceIte, reduceCtorEq, undefV, hb1]
  refine GCall.of (ireg_ok _ _ _ _) ?_
  rintro r g2 ⟨rfl, rfl⟩
  rw [decide_eq_true (show (0 : Int) ≤ 0 ∧ (0 : Int) < 16 by decide)]
  simp -implicitDefEqProofs (disch := (first | omega | (simp -implicitDefEqProofs only [szs, ne_eq] <;> omega) | fail)) only [go_sem, seval, ↓reduceIte, reduceCtorEq, undefV, hb1]
  simp [hw]
set_option maxHeartbeats 40000000 in
theorem imay_1 {op : Int} (d a b imm : Int) (h : Heap) (e : formI op = 1) : SF (Try.prog : MP) 58 [insV op d a b imm] h (fun _ => False) (fun _ => False) fun v h' => v = .bool (mayI op d a b imm) := by
  unfold mayI loI hiI
  refine SF.go hm Try.func58 ir58_eq ?_
  simp -implicitDefEqProofs (disch := (first | omega | (simp -implicitDefEqProofs only [szs, ne_eq] <;> omega) | fail)) only [go_sem, seval, ↓reduceIte, reduceCtorEq, ir58, undefV]
  refine GCall.of (form_ok op _ _ _) ?_
  rintro r g ⟨rfl, rfl⟩
  simp -implicitDefEqProofs (disch := (first | omega | (simp -implicitDefEqProofs only [szs, ne_eq] <;> omega) | fail)) only [go_sem, seval, ↓reduceIte, reduceCtorEq]
  refine GCall.of (((named_ok op _ (fun _ => False) (fun _ => False)).kept).foot (fun _ h => h.elim) (fun _ h => h.elim)) ?_
  rintro r g ⟨rfl, vf⟩
  have hb := (vf.get h.n (by simp) (by simp)).trans (w_push_eq rfl _)
  have hn := vf.n
  simp at hn
  have n0 : h.n ≤ g.n := by omega
  have n1 : h.n ≤ g.n + 1 := by omega
  rw [e]
  simp only [show fldD 1 = false from rfl, show fldA 1 = false from rfl, show fldB 1 = false from rfl, show fldM 1 = true from rfl]
  cases hw : wideI op
  · skip
    simp -implicitDefEqProofs (disch := (first | omega | (simp -implicitDefEqProofs only [szs, ne_eq] <;> omega) | fail)) only [go_sem, seval, ↓reduceIte, reduceCtorEq, undefV, hb, n0, n1]
    refine GCall.of (wide_ok op _ _ _) ?_
    rintro r g1 ⟨rfl, rfl⟩
    rw [hw]
    simp -implicitDefEqProofs (disch := (first | omega | (simp -implicitDefEqProofs only [szs, ne_eq] <;> omega) | fail)) only [go_sem, seval, ↓reduceIte, reduceCtorEq, undefV, hb]
    refine GCall.of (((name_ok op _ (fun _ => False) (fun _ => False)).kept).foot (fun _ h => h.elim) (fun _ h => h.elim)) ?_
    rintro r g1 ⟨⟨s, rfl, hs⟩, vf1⟩
    have hb1 := (vf1.get h.n (by simp; omega) (by simp))
    have hb2 := (vf1.get (g.n + 1) (by simp) (by simp))
    have hm1 := vf1.n
    simp (disch := first | rfl | ((try simp only [Heap.n_push, Heap.n_set]); omega)) only [w_push_ne, w_set_eq, w_set_ne, hb] at hb1 hb2
    simp only [Heap.n_push, Heap.n_set] at hm1
    have m0 : h.n ≤ g1.n := by omega
    have hi : 1 ≤ op ∧ op ≤ 28 := form_in (by rw [e]; decide)
    rw [decide_eq_true hi] at hs ⊢
    by_cases z_d : d = 0
    rotate_left
    · simp -implicitDefEqProofs (disch := (first | omega | (simp -implicitDefEqProofs only [szs, ne_eq] <;> omega) | fail)) only [go_sem, seval, ↓reduceIte, reduceCtorEq, undefV, hb1, hb2, hs, n1, eg_50, e_50, bq_self, bq_ne z_d]
      simp [z_d]
    subst z_d
    by_cases z_a : a = 0
    rotate_left
    · simp -implicitDefEqProofs (disch := (first | omega | (simp -implicitDefEqProofs only [szs, ne_eq] <;> omega) | fail)) only [go_sem, seval, ↓reduceIte, reduceCtorEq, undefV, hb1, hb2, hs, n1, eg_50, e_50, bq_self, bq_ne z_a]
      simp [z_a]
    subst z_a
    by_cases z_b : b = 0
    rotate_left
    · simp -implicitDefEqProofs (disch := (first | omega | (simp -implicitDefEqProofs only [szs, ne_eq] <;> omega) | fail)) only [go_sem, seval, ↓reduceIte, reduceCtorEq, undefV, hb1, hb2, hs, n1, eg_50, e_50, bq_self, bq_ne z_b]
      simp [z_b]
    subst z_b
    simp -implicitDefEqProofs (disch := (first | omega | (simp -implicitDefEqProofs only [szs, ne_eq] <;> omega) | fail)) only [go_sem, seval, ↓reduceIte, reduceCtorEq, undefV, hb1, hb2, hs, n1, eg_50, e_50, bq_self]
    refine GCall.of (ireg_ok _ _ _ _) ?_
    rintro r g2 ⟨rfl, rfl⟩
    rw [decide_eq_true (show (0 : Int) ≤ 0 ∧ (0 : Int) < 16 by decide)]
    simp -implicitDefEqProofs (disch := (first | omega | (simp -implicitDefEqProofs only [szs, ne_eq] <;> omega) | fail)) only [go_sem, seval, ↓reduceIte, reduceCtorEq, undefV, hb1]
    refine GCall.of (ireg_ok _ _ _ _) ?_
    rintro r g2 ⟨rfl, rfl⟩
    rw [decide_eq_true (show (0 : Int) ≤ 0 ∧ (0 : Int) < 16 by decide)]
    simp -implicitDefEqProofs (disch := (first | omega | (simp -implicitDefEqProofs only [szs, ne_eq] <;> omega) | fail)) only [go_sem, seval, ↓reduceIte, reduceCtorEq, undefV, hb1]
    refine GCall.of (ireg_ok _ _ _ _) ?_
    rintro r g2 ⟨rfl, rfl⟩
    rw [decide_eq_true (show (0 : Int) ≤ 0 ∧ (0 : Int) < 16 by decide)]
    by_cases r_l : -32768 ≤ imm
    rotate_left
    · simp -implicitDefEqProofs (disch := (first | omega | (simp -implicitDefEqProofs only [szs, ne_eq] <;> omega) | fail)) only [go_sem, seval, ↓reduceIte, reduceCtorEq, undefV, hb1, r_l]
      simp [hw]
    by_cases r_h : imm ≤ 32767
    rotate_left
    · simp -implicitDefEqProofs (disch := (first | omega | (simp -implicitDefEqProofs only [szs, ne_eq] <;> omega) | fail)) only [go_sem, seval, ↓reduceIte, reduceCtorEq, undefV, hb1, r_l, r_h]
      simp [hw]
    simp -implicitDefEqProofs (disch := (first | omega | (simp -implicitDefEqProofs only [szs, ne_eq] <;> omega) | fail)) only [go_sem, seval, ↓reduceIte, reduceCtorEq, undefV, hb1, r_l, r_h]
    simp [hw]
  · skip
    simp -implicitDefEqProofs (disch := (first | omega | (simp -implicitDefEqProofs only [szs, ne_eq] <;> omega) | fail)) only [go_sem, seval, ↓reduceIte, reduceCtorEq, undefV, hb, n0, n1]
    refine GCall.of (wide_ok op _ _ _) ?_
    rintro r g1 ⟨rfl, rfl⟩
    rw [hw]
    simp -implicitDefEqProofs (disch := (first | omega | (simp -implicitDefEqProofs only [szs, ne_eq] <;> omega) | fail)) only [go_sem, seval, ↓reduceIte, reduceCtorEq, undefV, hb]
    refine GCall.of (((name_ok op _ (fun _ => False) (fun _ => False)).kept).foot (fun _ h => h.elim) (fun _ h => h.elim)) ?_
    rintro r g1 ⟨⟨s, rfl, hs⟩, vf1⟩
    have hb1 := (vf1.get h.n (by simp; omega) (by simp))
    have hb2 := (vf1.get (g.n + 1) (by simp) (by simp))
    have hm1 := vf1.n
    simp (disch := first | rfl | ((try simp only [Heap.n_push, Heap.n_set]); omega)) only [w_push_ne, w_set_eq, w_set_ne, hb] at hb1 hb2
    simp only [Heap.n_push, Heap.n_set] at hm1
    have m0 : h.n ≤ g1.n := by omega
    have hi : 1 ≤ op ∧ op ≤ 28 := form_in (by rw [e]; decide)
    rw [decide_eq_true hi] at hs ⊢
    by_cases z_d : d = 0
    rotate_left
    · simp -implicitDefEqProofs (disch := (first | omega | (simp -implicitDefEqProofs only [szs, ne_eq] <;> omega) | fail)) only [go_sem, seval, ↓reduceIte, reduceCtorEq, undefV, hb1, hb2, hs, n1, eg_50, e_50, bq_self, bq_ne z_d]
      simp [z_d]
    subst z_d
    by_cases z_a : a = 0
    rotate_left
    · simp -implicitDefEqProofs (disch := (first | omega | (simp -implicitDefEqProofs only [szs, ne_eq] <;> omega) | fail)) only [go_sem, seval, ↓reduceIte, reduceCtorEq, undefV, hb1, hb2, hs, n1, eg_50, e_50, bq_self, bq_ne z_a]
      simp [z_a]
    subst z_a
    by_cases z_b : b = 0
    rotate_left
    · simp -implicitDefEqProofs (disch := (first | omega | (simp -implicitDefEqProofs only [szs, ne_eq] <;> omega) | fail)) only [go_sem, seval, ↓reduceIte, reduceCtorEq, undefV, hb1, hb2, hs, n1, eg_50, e_50, bq_self, bq_ne z_b]
      simp [z_b]
    subst z_b
    simp -implicitDefEqProofs (disch := (first | omega | (simp -implicitDefEqProofs only [szs, ne_eq] <;> omega) | fail)) only [go_sem, seval, ↓reduceIte, reduceCtorEq, undefV, hb1, hb2, hs, n1, eg_50, e_50, bq_self]
    refine GCall.of (ireg_ok _ _ _ _) ?_
    rintro r g2 ⟨rfl, rfl⟩
    rw [decide_eq_true (show (0 : Int) ≤ 0 ∧ (0 : Int) < 16 by decide)]
    simp -implicitDefEqProofs (disch := (first | omega | (simp -implicitDefEqProofs only [szs, ne_eq] <;> omega) | fail)) only [go_sem, seval, ↓reduceIte, reduceCtorEq, undefV, hb1]
    refine GCall.of (ireg_ok _ _ _ _) ?_
    rintro r g2 ⟨rfl, rfl⟩
    rw [decide_eq_true (show (0 : Int) ≤ 0 ∧ (0 : Int) < 16 by decide)]
    simp -implicitDefEqProofs (disch := (first | omega | (simp -implicitDefEqProofs only [szs, ne_eq] <;> omega) | fail)) only [go_sem, seval, ↓reduceIte, reduceCtorEq, undefV, hb1]
    refine GCall.of (ireg_ok _ _ _ _) ?_
    rintro r g2 ⟨rfl, rfl⟩
    rw [decide_eq_true (show (0 : Int) ≤ 0 ∧ (0 : Int) < 16 by decide)]
    by_cases r_l : 0 ≤ imm
    rotate_left
    · simp -implicitDefEqProofs (disch := (first | omega | (simp -implicitDefEqProofs only [szs, ne_eq] <;> omega) | fail)) only [go_sem, seval, ↓reduceIte, reduceCtorEq, undefV, hb1, r_l]
      simp [hw]
    by_cases r_h : imm ≤ 65535
    rotate_left
    · simp -implicitDefEqProofs (disch := (first | omega | (simp -implicitDefEqProofs only [szs, ne_eq] <;> omega) | fail)) only [go_sem, seval, ↓reduceIte, reduceCtorEq, undefV, hb1, r_l, r_h]
      simp [hw]
    simp -implicitDefEqProofs (disch := (first | omega | (simp -implicitDefEqProofs only [szs, ne_eq] <;> omega) | fail)) only [go_sem, seval, ↓reduceIte, reduceCtorEq, undefV, hb1, r_l, r_h]
    simp [hw]
set_option maxHeartbeats 40000000 in
theorem imay_2 {op : Int} (d a b imm : Int) (h : Heap) (e : formI op = 2) : SF (Try.prog : MP) 58 [insV op d a b imm] h (fun _ => False) (fun _ => False) fun v h' => v = .bool (mayI op d a b imm) := by
  unfold mayI loI hiI
  refine SF.go hm Try.func58 ir58_eq ?_
  simp -implicitDefEqProofs (disch := (first | omega | (simp -implicitDefEqProofs only [szs, ne_eq] <;> omega) | fail)) only [go_sem, seval, ↓reduceIte, reduceCtorEq, ir58, undefV]
  refine GCall.of (form_ok op _ _ _) ?_
  rintro r g ⟨rfl, rfl⟩
  simp -implicitDefEqProofs (disch := (first | omega | (simp -implicitDefEqProofs only [szs, ne_eq] <;> omega) | fail)) only [go_sem, seval, ↓reduceIte, reduceCtorEq]
  refine GCall.of (((named_ok op _ (fun _ => False) (fun _ => False)).kept).foot (fun _ h => h.elim) (fun _ h => h.elim)) ?_
  rintro r g ⟨rfl, vf⟩
  have hb := (vf.get h.n (by simp) (by simp)).trans (w_push_eq rfl _)
  have hn := vf.n
  simp at hn
  have n0 : h.n ≤ g.n := by omega
  have n1 : h.n ≤ g.n + 1 := by omega
  rw [e]
  simp only [show fldD 2 = false from rfl, show fldA 2 = true from rfl, show fldB 2 = false from rfl, show fldM 2 = false from rfl]
  have hw : wideI op = false := by cases hw : wideI op with
    | false => rfl
    | true => rcases wide_form hw with x | x <;> rw [x] at e <;> simp at e
  simp -implicitDefEqProofs (disch := (first | omega | (simp -implicitDefEqProofs only [szs, ne_eq] <;> omega) | fail)) only [go_sem, seval, ↓reduceIte, reduceCtorEq, undefV, hb, n0, n1]
  refine GCall.of (wide_ok op _ _ _) ?_
  rintro r g1 ⟨rfl, rfl⟩
  rw [hw]
  simp -implicitDefEqProofs (disch := (first | omega | (simp -implicitDefEqProofs only [szs, ne_eq] <;> omega) | fail)) only [go_sem, seval, ↓reduceIte, reduceCtorEq, undefV, hb]
  refine GCall.of (((name_ok op _ (fun _ => False) (fun _ => False)).kept).foot (fun _ h => h.elim) (fun _ h => h.elim)) ?_
  rintro r g1 ⟨⟨s, rfl, hs⟩, vf1⟩
  have hb1 := (vf1.get h.n (by simp; omega) (by simp))
  have hb2 := (vf1.get (g.n + 1) (by simp) (by simp))
  have hm1 := vf1.n
  simp (disch := first | rfl | ((try simp only [Heap.n_push, Heap.n_set]); omega)) only [w_push_ne, w_set_eq, w_set_ne, hb] at hb1 hb2
  simp only [Heap.n_push, Heap.n_set] at hm1
  have m0 : h.n ≤ g1.n := by omega
  have hi : 1 ≤ op ∧ op ≤ 28 := form_in (by rw [e]; decide)
  rw [decide_eq_true hi] at hs ⊢
  by_cases z_d : d = 0
  rotate_left
  · simp -implicitDefEqProofs (disch := (first | omega | (simp -implicitDefEqProofs only [szs, ne_eq] <;> omega) | fail)) only [go_sem, seval, ↓reduceIte, reduceCtorEq, undefV, hb1, hb2, hs, n1, eg_50, e_50, bq_self, bq_ne z_d]
    simp [z_d]
  subst z_d
  by_cases z_b : b = 0
  rotate_left
  · simp -implicitDefEqProofs (disch := (first | omega | (simp -implicitDefEqProofs only [szs, ne_eq] <;> omega) | fail)) only [go_sem, seval, ↓reduceIte, reduceCtorEq, undefV, hb1, hb2, hs, n1, eg_50, e_50, bq_self, bq_ne z_b]
    simp [z_b]
  subst z_b
  by_cases z_imm : imm = 0
  rotate_left
  · simp -implicitDefEqProofs (disch := (first | omega | (simp -implicitDefEqProofs only [szs, ne_eq] <;> omega) | fail)) only [go_sem, seval, ↓reduceIte, reduceCtorEq, undefV, hb1, hb2, hs, n1, eg_50, e_50, bq_self, bq_ne z_imm]
    simp [z_imm]
  subst z_imm
  simp -implicitDefEqProofs (disch := (first | omega | (simp -implicitDefEqProofs only [szs, ne_eq] <;> omega) | fail)) only [go_sem, seval, ↓reduceIte, reduceCtorEq, undefV, hb1, hb2, hs, n1, eg_50, e_50, bq_self]
  refine GCall.of (ireg_ok _ _ _ _) ?_
  rintro r g2 ⟨rfl, rfl⟩
  rw [decide_eq_true (show (0 : Int) ≤ 0 ∧ (0 : Int) < 16 by decide)]
  simp -implicitDefEqProofs (disch := (first | omega | (simp -implicitDefEqProofs only [szs, ne_eq] <;> omega) | fail)) only [go_sem, seval, ↓reduceIte, reduceCtorEq, undefV, hb1]
  refine GCall.of (ireg_ok _ _ _ _) ?_
  rintro r g2 ⟨rfl, rfl⟩
  by_cases r_a : 0 ≤ a ∧ a < 16
  rotate_left
  · rw [decide_eq_false r_a]
    simp -implicitDefEqProofs (disch := (first | omega | (simp -implicitDefEqProofs only [szs, ne_eq] <;> omega) | fail)) only [go_sem, seval, ↓reduceIte, reduceCtorEq, undefV]
    simp
  rw [decide_eq_true r_a]
  simp -implicitDefEqProofs (disch := (first | omega | (simp -implicitDefEqProofs only [szs, ne_eq] <;> omega) | fail)) only [go_sem, seval, ↓reduceIte, reduceCtorEq, undefV, hb1]
  refine GCall.of (ireg_ok _ _ _ _) ?_
  rintro r g2 ⟨rfl, rfl⟩
  rw [decide_eq_true (show (0 : Int) ≤ 0 ∧ (0 : Int) < 16 by decide)]
  simp -implicitDefEqProofs (disch := (first | omega | (simp -implicitDefEqProofs only [szs, ne_eq] <;> omega) | fail)) only [go_sem, seval, ↓reduceIte, reduceCtorEq, undefV, hb1]
  simp [hw]
set_option maxHeartbeats 40000000 in
theorem imay_3 {op : Int} (d a b imm : Int) (h : Heap) (e : formI op = 3) : SF (Try.prog : MP) 58 [insV op d a b imm] h (fun _ => False) (fun _ => False) fun v h' => v = .bool (mayI op d a b imm) := by
  unfold mayI loI hiI
  refine SF.go hm Try.func58 ir58_eq ?_
  simp -implicitDefEqProofs (disch := (first | omega | (simp -implicitDefEqProofs only [szs, ne_eq] <;> omega) | fail)) only [go_sem, seval, ↓reduceIte, reduceCtorEq, ir58, undefV]
  refine GCall.of (form_ok op _ _ _) ?_
  rintro r g ⟨rfl, rfl⟩
  simp -implicitDefEqProofs (disch := (first | omega | (simp -implicitDefEqProofs only [szs, ne_eq] <;> omega) | fail)) only [go_sem, seval, ↓reduceIte, reduceCtorEq]
  refine GCall.of (((named_ok op _ (fun _ => False) (fun _ => False)).kept).foot (fun _ h => h.elim) (fun _ h => h.elim)) ?_
  rintro r g ⟨rfl, vf⟩
  have hb := (vf.get h.n (by simp) (by simp)).trans (w_push_eq rfl _)
  have hn := vf.n
  simp at hn
  have n0 : h.n ≤ g.n := by omega
  have n1 : h.n ≤ g.n + 1 := by omega
  rw [e]
  simp only [show fldD 3 = true from rfl, show fldA 3 = false from rfl, show fldB 3 = false from rfl, show fldM 3 = true from rfl]
  cases hw : wideI op
  · skip
    simp -implicitDefEqProofs (disch := (first | omega | (simp -implicitDefEqProofs only [szs, ne_eq] <;> omega) | fail)) only [go_sem, seval, ↓reduceIte, reduceCtorEq, undefV, hb, n0, n1]
    refine GCall.of (wide_ok op _ _ _) ?_
    rintro r g1 ⟨rfl, rfl⟩
    rw [hw]
    simp -implicitDefEqProofs (disch := (first | omega | (simp -implicitDefEqProofs only [szs, ne_eq] <;> omega) | fail)) only [go_sem, seval, ↓reduceIte, reduceCtorEq, undefV, hb]
    refine GCall.of (((name_ok op _ (fun _ => False) (fun _ => False)).kept).foot (fun _ h => h.elim) (fun _ h => h.elim)) ?_
    rintro r g1 ⟨⟨s, rfl, hs⟩, vf1⟩
    have hb1 := (vf1.get h.n (by simp; omega) (by simp))
    have hb2 := (vf1.get (g.n + 1) (by simp) (by simp))
    have hm1 := vf1.n
    simp (disch := first | rfl | ((try simp only [Heap.n_push, Heap.n_set]); omega)) only [w_push_ne, w_set_eq, w_set_ne, hb] at hb1 hb2
    simp only [Heap.n_push, Heap.n_set] at hm1
    have m0 : h.n ≤ g1.n := by omega
    have hi : 1 ≤ op ∧ op ≤ 28 := form_in (by rw [e]; decide)
    rw [decide_eq_true hi] at hs ⊢
    by_cases z_a : a = 0
    rotate_left
    · simp -implicitDefEqProofs (disch := (first | omega | (simp -implicitDefEqProofs only [szs, ne_eq] <;> omega) | fail)) only [go_sem, seval, ↓reduceIte, reduceCtorEq, undefV, hb1, hb2, hs, n1, eg_50, e_50, bq_self, bq_ne z_a]
      simp [z_a]
    subst z_a
    by_cases z_b : b = 0
    rotate_left
    · simp -implicitDefEqProofs (disch := (first | omega | (simp -implicitDefEqProofs only [szs, ne_eq] <;> omega) | fail)) only [go_sem, seval, ↓reduceIte, reduceCtorEq, undefV, hb1, hb2, hs, n1, eg_50, e_50, bq_self, bq_ne z_b]
      simp [z_b]
    subst z_b
    simp -implicitDefEqProofs (disch := (first | omega | (simp -implicitDefEqProofs only [szs, ne_eq] <;> omega) | fail)) only [go_sem, seval, ↓reduceIte, reduceCtorEq, undefV, hb1, hb2, hs, n1, eg_50, e_50, bq_self]
    refine GCall.of (ireg_ok _ _ _ _) ?_
    rintro r g2 ⟨rfl, rfl⟩
    by_cases r_d : 0 ≤ d ∧ d < 16
    rotate_left
    · rw [decide_eq_false r_d]
      simp -implicitDefEqProofs (disch := (first | omega | (simp -implicitDefEqProofs only [szs, ne_eq] <;> omega) | fail)) only [go_sem, seval, ↓reduceIte, reduceCtorEq, undefV]
      simp
    rw [decide_eq_true r_d]
    simp -implicitDefEqProofs (disch := (first | omega | (simp -implicitDefEqProofs only [szs, ne_eq] <;> omega) | fail)) only [go_sem, seval, ↓reduceIte, reduceCtorEq, undefV, hb1]
    refine GCall.of (ireg_ok _ _ _ _) ?_
    rintro r g2 ⟨rfl, rfl⟩
    rw [decide_eq_true (show (0 : Int) ≤ 0 ∧ (0 : Int) < 16 by decide)]
    simp -implicitDefEqProofs (disch := (first | omega | (simp -implicitDefEqProofs only [szs, ne_eq] <;> omega) | fail)) only [go_sem, seval, ↓reduceIte, reduceCtorEq, undefV, hb1]
    refine GCall.of (ireg_ok _ _ _ _) ?_
    rintro r g2 ⟨rfl, rfl⟩
    rw [decide_eq_true (show (0 : Int) ≤ 0 ∧ (0 : Int) < 16 by decide)]
    by_cases r_l : -32768 ≤ imm
    rotate_left
    · simp -implicitDefEqProofs (disch := (first | omega | (simp -implicitDefEqProofs only [szs, ne_eq] <;> omega) | fail)) only [go_sem, seval, ↓reduceIte, reduceCtorEq, undefV, hb1, r_l]
      simp [hw]
    by_cases r_h : imm ≤ 32767
    rotate_left
    · simp -implicitDefEqProofs (disch := (first | omega | (simp -implicitDefEqProofs only [szs, ne_eq] <;> omega) | fail)) only [go_sem, seval, ↓reduceIte, reduceCtorEq, undefV, hb1, r_l, r_h]
      simp [hw]
    simp -implicitDefEqProofs (disch := (first | omega | (simp -implicitDefEqProofs only [szs, ne_eq] <;> omega) | fail)) only [go_sem, seval, ↓reduceIte, reduceCtorEq, undefV, hb1, r_l, r_h]
    simp [hw]
  · skip
    simp -implicitDefEqProofs (disch := (first | omega | (simp -implicitDefEqProofs only [szs, ne_eq] <;> omega) | fail)) only [go_sem, seval, ↓reduceIte, reduceCtorEq, undefV, hb, n0, n1]
    refine GCall.of (wide_ok op _ _ _) ?_
    rintro r g1 ⟨rfl, rfl⟩
    rw [hw]
    simp -implicitDefEqProofs (disch := (first | omega | (simp -implicitDefEqProofs only [szs, ne_eq] <;> omega) | fail)) only [go_sem, seval, ↓reduceIte, reduceCtorEq, undefV, hb]
    refine GCall.of (((name_ok op _ (fun _ => False) (fun _ => False)).kept).foot (fun _ h => h.elim) (fun _ h => h.elim)) ?_
    rintro r g1 ⟨⟨s, rfl, hs⟩, vf1⟩
    have hb1 := (vf1.get h.n (by simp; omega) (by simp))
    have hb2 := (vf1.get (g.n + 1) (by simp) (by simp))
    have hm1 := vf1.n
    simp (disch := first | rfl | ((try simp only [Heap.n_push, Heap.n_set]); omega)) only [w_push_ne, w_set_eq, w_set_ne, hb] at hb1 hb2
    simp only [Heap.n_push, Heap.n_set] at hm1
    have m0 : h.n ≤ g1.n := by omega
    have hi : 1 ≤ op ∧ op ≤ 28 := form_in (by rw [e]; decide)
    rw [decide_eq_true hi] at hs ⊢
    by_cases z_a : a = 0
    rotate_left
    · simp -implicitDefEqProofs (disch := (first | omega | (simp -implicitDefEqProofs only [szs, ne_eq] <;> omega) | fail)) only [go_sem, seval, ↓reduceIte, reduceCtorEq, undefV, hb1, hb2, hs, n1, eg_50, e_50, bq_self, bq_ne z_a]
      simp [z_a]
    subst z_a
    by_cases z_b : b = 0
    rotate_left
    · simp -implicitDefEqProofs (disch := (first | omega | (simp -implicitDefEqProofs only [szs, ne_eq] <;> omega) | fail)) only [go_sem, seval, ↓reduceIte, reduceCtorEq, undefV, hb1, hb2, hs, n1, eg_50, e_50, bq_self, bq_ne z_b]
      simp [z_b]
    subst z_b
    simp -implicitDefEqProofs (disch := (first | omega | (simp -implicitDefEqProofs only [szs, ne_eq] <;> omega) | fail)) only [go_sem, seval, ↓reduceIte, reduceCtorEq, undefV, hb1, hb2, hs, n1, eg_50, e_50, bq_self]
    refine GCall.of (ireg_ok _ _ _ _) ?_
    rintro r g2 ⟨rfl, rfl⟩
    by_cases r_d : 0 ≤ d ∧ d < 16
    rotate_left
    · rw [decide_eq_false r_d]
      simp -implicitDefEqProofs (disch := (first | omega | (simp -implicitDefEqProofs only [szs, ne_eq] <;> omega) | fail)) only [go_sem, seval, ↓reduceIte, reduceCtorEq, undefV]
      simp
    rw [decide_eq_true r_d]
    simp -implicitDefEqProofs (disch := (first | omega | (simp -implicitDefEqProofs only [szs, ne_eq] <;> omega) | fail)) only [go_sem, seval, ↓reduceIte, reduceCtorEq, undefV, hb1]
    refine GCall.of (ireg_ok _ _ _ _) ?_
    rintro r g2 ⟨rfl, rfl⟩
    rw [decide_eq_true (show (0 : Int) ≤ 0 ∧ (0 : Int) < 16 by decide)]
    simp -implicitDefEqProofs (disch := (first | omega | (simp -implicitDefEqProofs only [szs, ne_eq] <;> omega) | fail)) only [go_sem, seval, ↓reduceIte, reduceCtorEq, undefV, hb1]
    refine GCall.of (ireg_ok _ _ _ _) ?_
    rintro r g2 ⟨rfl, rfl⟩
    rw [decide_eq_true (show (0 : Int) ≤ 0 ∧ (0 : Int) < 16 by decide)]
    by_cases r_l : 0 ≤ imm
    rotate_left
    · simp -implicitDefEqProofs (disch := (first | omega | (simp -implicitDefEqProofs only [szs, ne_eq] <;> omega) | fail)) only [go_sem, seval, ↓reduceIte, reduceCtorEq, undefV, hb1, r_l]
      simp [hw]
    by_cases r_h : imm ≤ 65535
    rotate_left
    · simp -implicitDefEqProofs (disch := (first | omega | (simp -implicitDefEqProofs only [szs, ne_eq] <;> omega) | fail)) only [go_sem, seval, ↓reduceIte, reduceCtorEq, undefV, hb1, r_l, r_h]
      simp [hw]
    simp -implicitDefEqProofs (disch := (first | omega | (simp -implicitDefEqProofs only [szs, ne_eq] <;> omega) | fail)) only [go_sem, seval, ↓reduceIte, reduceCtorEq, undefV, hb1, r_l, r_h]
    simp [hw]
set_option maxHeartbeats 40000000 in
theorem imay_4 {op : Int} (d a b imm : Int) (h : Heap) (e : formI op = 4) : SF (Try.prog : MP) 58 [insV op d a b imm] h (fun _ => False) (fun _ => False) fun v h' => v = .bool (mayI op d a b imm) := by
  unfold mayI loI hiI
  refine SF.go hm Try.func58 ir58_eq ?_
  simp -implicitDefEqProofs (disch := (first | omega | (simp -implicitDefEqProofs only [szs, ne_eq] <;> omega) | fail)) only [go_sem, seval, ↓reduceIte, reduceCtorEq, ir58, undefV]
  refine GCall.of (form_ok op _ _ _) ?_
  rintro r g ⟨rfl, rfl⟩
  simp -implicitDefEqProofs (disch := (first | omega | (simp -implicitDefEqProofs only [szs, ne_eq] <;> omega) | fail)) only [go_sem, seval, ↓reduceIte, reduceCtorEq]
  refine GCall.of (((named_ok op _ (fun _ => False) (fun _ => False)).kept).foot (fun _ h => h.elim) (fun _ h => h.elim)) ?_
  rintro r g ⟨rfl, vf⟩
  have hb := (vf.get h.n (by simp) (by simp)).trans (w_push_eq rfl _)
  have hn := vf.n
  simp at hn
  have n0 : h.n ≤ g.n := by omega
  have n1 : h.n ≤ g.n + 1 := by omega
  rw [e]
  simp only [show fldD 4 = true from rfl, show fldA 4 = true from rfl, show fldB 4 = false from rfl, show fldM 4 = false from rfl]
  have hw : wideI op = false := by cases hw : wideI op with
    | false => rfl
    | true => rcases wide_form hw with x | x <;> rw [x] at e <;> simp at e
  simp -implicitDefEqProofs (disch := (first | omega | (simp -implicitDefEqProofs only [szs, ne_eq] <;> omega) | fail)) only [go_sem, seval, ↓reduceIte, reduceCtorEq, undefV, hb, n0, n1]
  refine GCall.of (wide_ok op _ _ _) ?_
  rintro r g1 ⟨rfl, rfl⟩
  rw [hw]
  simp -implicitDefEqProofs (disch := (first | omega | (simp -implicitDefEqProofs only [szs, ne_eq] <;> omega) | fail)) only [go_sem, seval, ↓reduceIte, reduceCtorEq, undefV, hb]
  refine GCall.of (((name_ok op _ (fun _ => False) (fun _ => False)).kept).foot (fun _ h => h.elim) (fun _ h => h.elim)) ?_
  rintro r g1 ⟨⟨s, rfl, hs⟩, vf1⟩
  have hb1 := (vf1.get h.n (by simp; omega) (by simp))
  have hb2 := (vf1.get (g.n + 1) (by simp) (by simp))
  have hm1 := vf1.n
  simp (disch := first | rfl | ((try simp only [Heap.n_push, Heap.n_set]); omega)) only [w_push_ne, w_set_eq, w_set_ne, hb] at hb1 hb2
  simp only [Heap.n_push, Heap.n_set] at hm1
  have m0 : h.n ≤ g1.n := by omega
  have hi : 1 ≤ op ∧ op ≤ 28 := form_in (by rw [e]; decide)
  rw [decide_eq_true hi] at hs ⊢
  by_cases z_b : b = 0
  rotate_left
  · simp -implicitDefEqProofs (disch := (first | omega | (simp -implicitDefEqProofs only [szs, ne_eq] <;> omega) | fail)) only [go_sem, seval, ↓reduceIte, reduceCtorEq, undefV, hb1, hb2, hs, n1, eg_50, e_50, bq_self, bq_ne z_b]
    simp [z_b]
  subst z_b
  by_cases z_imm : imm = 0
  rotate_left
  · simp -implicitDefEqProofs (disch := (first | omega | (simp -implicitDefEqProofs only [szs, ne_eq] <;> omega) | fail)) only [go_sem, seval, ↓reduceIte, reduceCtorEq, undefV, hb1, hb2, hs, n1, eg_50, e_50, bq_self, bq_ne z_imm]
    simp [z_imm]
  subst z_imm
  simp -implicitDefEqProofs (disch := (first | omega | (simp -implicitDefEqProofs only [szs, ne_eq] <;> omega) | fail)) only [go_sem, seval, ↓reduceIte, reduceCtorEq, undefV, hb1, hb2, hs, n1, eg_50, e_50, bq_self]
  refine GCall.of (ireg_ok _ _ _ _) ?_
  rintro r g2 ⟨rfl, rfl⟩
  by_cases r_d : 0 ≤ d ∧ d < 16
  rotate_left
  · rw [decide_eq_false r_d]
    simp -implicitDefEqProofs (disch := (first | omega | (simp -implicitDefEqProofs only [szs, ne_eq] <;> omega) | fail)) only [go_sem, seval, ↓reduceIte, reduceCtorEq, undefV]
    simp
  rw [decide_eq_true r_d]
  simp -implicitDefEqProofs (disch := (first | omega | (simp -implicitDefEqProofs only [szs, ne_eq] <;> omega) | fail)) only [go_sem, seval, ↓reduceIte, reduceCtorEq, undefV, hb1]
  refine GCall.of (ireg_ok _ _ _ _) ?_
  rintro r g2 ⟨rfl, rfl⟩
  by_cases r_a : 0 ≤ a ∧ a < 16
  rotate_left
  · rw [decide_eq_false r_a]
    simp -implicitDefEqProofs (disch := (first | omega | (simp -implicitDefEqProofs only [szs, ne_eq] <;> omega) | fail)) only [go_sem, seval, ↓reduceIte, reduceCtorEq, undefV]
    simp
  rw [decide_eq_true r_a]
  simp -implicitDefEqProofs (disch := (first | omega | (simp -implicitDefEqProofs only [szs, ne_eq] <;> omega) | fail)) only [go_sem, seval, ↓reduceIte, reduceCtorEq, undefV, hb1]
  refine GCall.of (ireg_ok _ _ _ _) ?_
  rintro r g2 ⟨rfl, rfl⟩
  rw [decide_eq_true (show (0 : Int) ≤ 0 ∧ (0 : Int) < 16 by decide)]
  simp -implicitDefEqProofs (disch := (first | omega | (simp -implicitDefEqProofs only [szs, ne_eq] <;> omega) | fail)) only [go_sem, seval, ↓reduceIte, reduceCtorEq, undefV, hb1]
  simp [hw]
set_option maxHeartbeats 40000000 in
theorem imay_5 {op : Int} (d a b imm : Int) (h : Heap) (e : formI op = 5) : SF (Try.prog : MP) 58 [insV op d a b imm] h (fun _ => False) (fun _ => False) fun v h' => v = .bool (mayI op d a b imm) := by
  unfold mayI loI hiI
  refine SF.go hm Try.func58 ir58_eq ?_
  simp -implicitDefEqProofs (disch := (first | omega | (simp -implicitDefEqProofs only [szs, ne_eq] <;> omega) | fail)) only [go_sem, seval, ↓reduceIte, reduceCtorEq, ir58, undefV]
  refine GCall.of (form_ok op _ _ _) ?_
  rintro r g ⟨rfl, rfl⟩
  simp -implicitDefEqProofs (disch := (first | omega | (simp -implicitDefEqProofs only [szs, ne_eq] <;> omega) | fail)) only [go_sem, seval, ↓reduceIte, reduceCtorEq]
  refine GCall.of (((named_ok op _ (fun _ => False) (fun _ => False)).kept).foot (fun _ h => h.elim) (fun _ h => h.elim)) ?_
  rintro r g ⟨rfl, vf⟩
  have hb := (vf.get h.n (by simp) (by simp)).trans (w_push_eq rfl _)
  have hn := vf.n
  simp at hn
  have n0 : h.n ≤ g.n := by omega
  have n1 : h.n ≤ g.n + 1 := by omega
  rw [e]
  simp only [show fldD 5 = true from rfl, show fldA 5 = true from rfl, show fldB 5 = true from rfl, show fldM 5 = false from rfl]
  have hw : wideI op = false := by cases hw : wideI op with
    | false => rfl
    | true => rcases wide_form hw with x | x <;> rw [x] at e <;> simp at e
  simp -implicitDefEqProofs (disch := (first | omega | (simp -implicitDefEqProofs only [szs, ne_eq] <;> omega) | fail)) only [go_sem, seval, ↓reduceIte, reduceCtorEq, undefV, hb, n0, n1]
  refine GCall.of (wide_ok op _ _ _) ?_
  rintro r g1 ⟨rfl, rfl⟩
  rw [hw]
  simp -implicitDefEqProofs (disch := (first | omega | (simp -implicitDefEqProofs only [szs, ne_eq] <;> omega) | fail)) only [go_sem, seval, ↓reduceIte, reduceCtorEq, undefV, hb]
  refine GCall.of (((name_ok op _ (fun _ => False) (fun _ => False)).kept).foot (fun _ h => h.elim) (fun _ h => h.elim)) ?_
  rintro r g1 ⟨⟨s, rfl, hs⟩, vf1⟩
  have hb1 := (vf1.get h.n (by simp; omega) (by simp))
  have hb2 := (vf1.get (g.n + 1) (by simp) (by simp))
  have hm1 := vf1.n
  simp (disch := first | rfl | ((try simp only [Heap.n_push, Heap.n_set]); omega)) only [w_push_ne, w_set_eq, w_set_ne, hb] at hb1 hb2
  simp only [Heap.n_push, Heap.n_set] at hm1
  have m0 : h.n ≤ g1.n := by omega
  have hi : 1 ≤ op ∧ op ≤ 28 := form_in (by rw [e]; decide)
  rw [decide_eq_true hi] at hs ⊢
  by_cases z_imm : imm = 0
  rotate_left
  · simp -implicitDefEqProofs (disch := (first | omega | (simp -implicitDefEqProofs only [szs, ne_eq] <;> omega) | fail)) only [go_sem, seval, ↓reduceIte, reduceCtorEq, undefV, hb1, hb2, hs, n1, eg_50, e_50, bq_self, bq_ne z_imm]
    simp [z_imm]
  subst z_imm
  simp -implicitDefEqProofs (disch := (first | omega | (simp -implicitDefEqProofs only [szs, ne_eq] <;> omega) | fail)) only [go_sem, seval, ↓reduceIte, reduceCtorEq, undefV, hb1, hb2, hs, n1, eg_50, e_50, bq_self]
  refine GCall.of (ireg_ok _ _ _ _) ?_
  rintro r g2 ⟨rfl, rfl⟩
  by_cases r_d : 0 ≤ d ∧ d < 16
  rotate_left
  · rw [decide_eq_false r_d]
    simp -implicitDefEqProofs (disch := (first | omega | (simp -implicitDefEqProofs only [szs, ne_eq] <;> omega) | fail)) only [go_sem, seval, ↓reduceIte, reduceCtorEq, undefV]
    simp
  rw [decide_eq_true r_d]
  simp -implicitDefEqProofs (disch := (first | omega | (simp -implicitDefEqProofs only [szs, ne_eq] <;> omega) | fail)) only [go_sem, seval, ↓reduceIte, reduceCtorEq, undefV, hb1]
  refine GCall.of (ireg_ok _ _ _ _) ?_
  rintro r g2 ⟨rfl, rfl⟩
  by_cases r_a : 0 ≤ a ∧ a < 16
  rotate_left
  · rw [decide_eq_false r_a]
    simp -implicitDefEqProofs (disch := (first | omega | (simp -implicitDefEqProofs only [szs, ne_eq] <;> omega) | fail)) only [go_sem, seval, ↓reduceIte, reduceCtorEq, undefV]
    simp
  rw [decide_eq_true r_a]
  simp -implicitDefEqProofs (disch := (first | omega | (simp -implicitDefEqProofs only [szs, ne_eq] <;> omega) | fail)) only [go_sem, seval, ↓reduceIte, reduceCtorEq, undefV, hb1]
  refine GCall.of (ireg_ok _ _ _ _) ?_
  rintro r g2 ⟨rfl, rfl⟩
  by_cases r_b : 0 ≤ b ∧ b < 16
  rotate_left
  · rw [decide_eq_false r_b]
    simp -implicitDefEqProofs (disch := (first | omega | (simp -implicitDefEqProofs only [szs, ne_eq] <;> omega) | fail)) only [go_sem, seval, ↓reduceIte, reduceCtorEq, undefV]
    simp
  rw [decide_eq_true r_b]
  simp -implicitDefEqProofs (disch := (first | omega | (simp -implicitDefEqProofs only [szs, ne_eq] <;> omega) | fail)) only [go_sem, seval, ↓reduceIte, reduceCtorEq, undefV, hb1]
  simp [hw]
set_option maxHeartbeats 40000000 in
theorem imay_6 {op : Int} (d a b imm : Int) (h : Heap) (e : formI op = 6) : SF (Try.prog : MP) 58 [insV op d a b imm] h (fun _ => False) (fun _ => False) fun v h' => v = .bool (mayI op d a b imm) := by
  unfold mayI loI hiI
  refine SF.go hm Try.func58 ir58_eq ?_
  simp -implicitDefEqProofs (disch := (first | omega | (simp -implicitDefEqProofs only [szs, ne_eq] <;> omega) | fail)) only [go_sem, seval, ↓reduceIte, reduceCtorEq, ir58, undefV]
  refine GCall.of (form_ok op _ _ _) ?_
  rintro r g ⟨rfl, rfl⟩
  simp -implicitDefEqProofs (disch := (first | omega | (simp -implicitDefEqProofs only [szs, ne_eq] <;> omega) | fail)) only [go_sem, seval, ↓reduceIte, reduceCtorEq]
  refine GCall.of (((named_ok op _ (fun _ => False) (fun _ => False)).kept).foot (fun _ h => h.elim) (fun _ h => h.elim)) ?_
  rintro r g ⟨rfl, vf⟩
  have hb := (vf.get h.n (by simp) (by simp)).trans (w_push_eq rfl _)
  have hn := vf.n
  simp at hn
  have n0 : h.n ≤ g.n := by omega
  have n1 : h.n ≤ g.n + 1 := by omega
  rw [e]
  simp only [show fldD 6 = true from rfl, show fldA 6 = true from rfl, show fldB 6 = false from rfl, show fldM 6 = true from rfl]
  have hw : wideI op = false := by cases hw : wideI op with
    | false => rfl
    | true => rcases wide_form hw with x | x <;> rw [x] at e <;> simp at e
  simp -implicitDefEqProofs (disch := (first | omega | (simp -implicitDefEqProofs only [szs, ne_eq] <;> omega) | fail)) only [go_sem, seval, ↓reduceIte, reduceCtorEq, undefV, hb, n0, n1]
  refine GCall.of (wide_ok op _ _ _) ?_
  rintro r g1 ⟨rfl, rfl⟩
  rw [hw]
  simp -implicitDefEqProofs (disch := (first | omega | (simp -implicitDefEqProofs only [szs, ne_eq] <;> omega) | fail)) only [go_sem, seval, ↓reduceIte, reduceCtorEq, undefV, hb]
  refine GCall.of (((name_ok op _ (fun _ => False) (fun _ => False)).kept).foot (fun _ h => h.elim) (fun _ h => h.elim)) ?_
  rintro r g1 ⟨⟨s, rfl, hs⟩, vf1⟩
  have hb1 := (vf1.get h.n (by simp; omega) (by simp))
  have hb2 := (vf1.get (g.n + 1) (by simp) (by simp))
  have hm1 := vf1.n
  simp (disch := first | rfl | ((try simp only [Heap.n_push, Heap.n_set]); omega)) only [w_push_ne, w_set_eq, w_set_ne, hb] at hb1 hb2
  simp only [Heap.n_push, Heap.n_set] at hm1
  have m0 : h.n ≤ g1.n := by omega
  have hi : 1 ≤ op ∧ op ≤ 28 := form_in (by rw [e]; decide)
  rw [decide_eq_true hi] at hs ⊢
  by_cases z_b : b = 0
  rotate_left
  · simp -implicitDefEqProofs (disch := (first | omega | (simp -implicitDefEqProofs only [szs, ne_eq] <;> omega) | fail)) only [go_sem, seval, ↓reduceIte, reduceCtorEq, undefV, hb1, hb2, hs, n1, eg_50, e_50, bq_self, bq_ne z_b]
    simp [z_b]
  subst z_b
  simp -implicitDefEqProofs (disch := (first | omega | (simp -implicitDefEqProofs only [szs, ne_eq] <;> omega) | fail)) only [go_sem, seval, ↓reduceIte, reduceCtorEq, undefV, hb1, hb2, hs, n1, eg_50, e_50, bq_self]
  refine GCall.of (ireg_ok _ _ _ _) ?_
  rintro r g2 ⟨rfl, rfl⟩
  by_cases r_d : 0 ≤ d ∧ d < 16
  rotate_left
  · rw [decide_eq_false r_d]
    simp -implicitDefEqProofs (disch := (first | omega | (simp -implicitDefEqProofs only [szs, ne_eq] <;> omega) | fail)) only [go_sem, seval, ↓reduceIte, reduceCtorEq, undefV]
    simp
  rw [decide_eq_true r_d]
  simp -implicitDefEqProofs (disch := (first | omega | (simp -implicitDefEqProofs only [szs, ne_eq] <;> omega) | fail)) only [go_sem, seval, ↓reduceIte, reduceCtorEq, undefV, hb1]
  refine GCall.of (ireg_ok _ _ _ _) ?_
  rintro r g2 ⟨rfl, rfl⟩
  by_cases r_a : 0 ≤ a ∧ a < 16
  rotate_left
  · rw [decide_eq_false r_a]
    simp -implicitDefEqProofs (disch := (first | omega | (simp -implicitDefEqProofs only [szs, ne_eq] <;> omega) | fail)) only [go_sem, seval, ↓reduceIte, reduceCtorEq, undefV]
    simp
  rw [decide_eq_true r_a]
  simp -implicitDefEqProofs (disch := (first | omega | (simp -implicitDefEqProofs only [szs, ne_eq] <;> omega) | fail)) only [go_sem, seval, ↓reduceIte, reduceCtorEq, undefV, hb1]
  refine GCall.of (ireg_ok _ _ _ _) ?_
  rintro r g2 ⟨rfl, rfl⟩
  rw [decide_eq_true (show (0 : Int) ≤ 0 ∧ (0 : Int) < 16 by decide)]
  by_cases r_l : -32768 ≤ imm
  rotate_left
  · simp -implicitDefEqProofs (disch := (first | omega | (simp -implicitDefEqProofs only [szs, ne_eq] <;> omega) | fail)) only [go_sem, seval, ↓reduceIte, reduceCtorEq, undefV, hb1, r_l]
    simp [hw]
  by_cases r_h : imm ≤ 32767
  rotate_left
  · simp -implicitDefEqProofs (disch := (first | omega | (simp -implicitDefEqProofs only [szs, ne_eq] <;> omega) | fail)) only [go_sem, seval, ↓reduceIte, reduceCtorEq, undefV, hb1, r_l, r_h]
    simp [hw]
  simp -implicitDefEqProofs (disch := (first | omega | (simp -implicitDefEqProofs only [szs, ne_eq] <;> omega) | fail)) only [go_sem, seval, ↓reduceIte, reduceCtorEq, undefV, hb1, r_l, r_h]
  simp [hw]
theorem imay_ok (op d a b imm : Int) (h : Heap) : SF (Try.prog : MP) 58 [insV op d a b imm] h (fun _ => False) (fun _ => False) fun v h' => v = .bool (mayI op d a b imm) := by
  rcases formI_in op with e | e | e | e | e | e | e
  · exact imay_0 d a b imm h e
  · exact imay_1 d a b imm h e
  · exact imay_2 d a b imm h e
  · exact imay_3 d a b imm h e
  · exact imay_4 d a b imm h e
  · exact imay_5 d a b imm h e
  · exact imay_6 d a b imm h e
end Go.Proofs.Ytmkdbninmimndaa
