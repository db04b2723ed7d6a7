/- Converting; words. -/
import Derived.Test.YtmkdbninmimndaaD3
set_option linter.unusedVariables false
set_option maxRecDepth 100000
namespace Go.Proofs.Ytmkdbninmimndaa
open Go Go.Vm
theorem cv3_109 {M : MP} {R W : Set'} {tm : Tm} {h : Heap} {K : V → Heap → Prop} (x : Operand) : LOp M R W tm h (.convert 3 109 x) K = onO (evV tm x) fun a => onO (convV M.P 3 109 a h) fun r => allB R r.2 ∧ K r.1 h := by
  apply LOp_convert; decide
theorem c3_109 (h : Heap) (n : Int) : convV Try.prog 3 109 (.int .i64 n) h = some (.int .u16 (IntKind.u16.wrap n), []) := by simp only [convV, Try.underlying3, Try.underlying109]
theorem cv109_25 {M : MP} {R W : Set'} {tm : Tm} {h : Heap} {K : V → Heap → Prop} (x : Operand) : LOp M R W tm h (.convert 109 25 x) K = onO (evV tm x) fun a => onO (convV M.P 109 25 a h) fun r => allB R r.2 ∧ K r.1 h := by
  apply LOp_convert; decide
theorem c109_25 (h : Heap) (n : Int) : convV Try.prog 109 25 (.int .u16 n) h = some (.int .u32 (IntKind.u32.wrap n), []) := by simp only [convV, Try.underlying109, Try.underlying25]
theorem cv25_113 {M : MP} {R W : Set'} {tm : Tm} {h : Heap} {K : V → Heap → Prop} (x : Operand) : LOp M R W tm h (.convert 25 113 x) K = onO (evV tm x) fun a => onO (convV M.P 25 113 a h) fun r => allB R r.2 ∧ K r.1 h := by
  apply LOp_convert; decide
theorem c25_113 (h : Heap) (n : Int) : convV Try.prog 25 113 (.int .u32 n) h = some (.int .i16 (IntKind.i16.wrap n), []) := by simp only [convV, Try.underlying25, Try.underlying113]
theorem cv113_3 {M : MP} {R W : Set'} {tm : Tm} {h : Heap} {K : V → Heap → Prop} (x : Operand) : LOp M R W tm h (.convert 113 3 x) K = onO (evV tm x) fun a => onO (convV M.P 113 3 a h) fun r => allB R r.2 ∧ K r.1 h := by
  apply LOp_convert; decide
theorem c113_3 (h : Heap) (n : Int) : convV Try.prog 113 3 (.int .i16 n) h = some (.int .i64 (IntKind.i64.wrap n), []) := by simp only [convV, Try.underlying113, Try.underlying3]
theorem cv3_21 {M : MP} {R W : Set'} {tm : Tm} {h : Heap} {K : V → Heap → Prop} (x : Operand) : LOp M R W tm h (.convert 3 21 x) K = onO (evV tm x) fun a => onO (convV M.P 3 21 a h) fun r => allB R r.2 ∧ K r.1 h := by
  apply LOp_convert; decide
theorem cvd3_21 {P : Program} {tm : Tm} {h : Heap} {K : V → Heap → Set' → Set' → Prop} (x : Operand) : LOpD P tm h (.convert 3 21 x) K = onO (evV tm x) fun a => onO (convV P 3 21 a h) fun r => K r.1 h (fun x => x ∈ r.2) (fun x => x ∈ ([] : List Nat)) := by
  apply LOpD_convert; decide
theorem c3_21 (h : Heap) (n : Int) : convV Try.prog 3 21 (.int .i64 n) h = some (.int .i32 (IntKind.i32.wrap n), []) := by simp only [convV, Try.underlying3, Try.underlying21]
theorem cv21_25 {M : MP} {R W : Set'} {tm : Tm} {h : Heap} {K : V → Heap → Prop} (x : Operand) : LOp M R W tm h (.convert 21 25 x) K = onO (evV tm x) fun a => onO (convV M.P 21 25 a h) fun r => allB R r.2 ∧ K r.1 h := by
  apply LOp_convert; decide
theorem cvd21_25 {P : Program} {tm : Tm} {h : Heap} {K : V → Heap → Set' → Set' → Prop} (x : Operand) : LOpD P tm h (.convert 21 25 x) K = onO (evV tm x) fun a => onO (convV P 21 25 a h) fun r => K r.1 h (fun x => x ∈ r.2) (fun x => x ∈ ([] : List Nat)) := by
  apply LOpD_convert; decide
theorem c21_25 (h : Heap) (n : Int) : convV Try.prog 21 25 (.int .i32 n) h = some (.int .u32 (IntKind.u32.wrap n), []) := by simp only [convV, Try.underlying21, Try.underlying25]
theorem cv25_48 {M : MP} {R W : Set'} {tm : Tm} {h : Heap} {K : V → Heap → Prop} (x : Operand) : LOp M R W tm h (.convert 25 48 x) K = onO (evV tm x) fun a => onO (convV M.P 25 48 a h) fun r => allB R r.2 ∧ K r.1 h := by
  apply LOp_convert; decide
theorem c25_48 (h : Heap) (n : Int) : convV Try.prog 25 48 (.int .u32 n) h = some (.int .i64 (IntKind.i64.wrap n), []) := by simp only [convV, Try.underlying25, Try.underlying48]
theorem cv48_25 {M : MP} {R W : Set'} {tm : Tm} {h : Heap} {K : V → Heap → Prop} (x : Operand) : LOp M R W tm h (.convert 48 25 x) K = onO (evV tm x) fun a => onO (convV M.P 48 25 a h) fun r => allB R r.2 ∧ K r.1 h := by
  apply LOp_convert; decide
theorem c48_25 (h : Heap) (n : Int) : convV Try.prog 48 25 (.int .i64 n) h = some (.int .u32 (IntKind.u32.wrap n), []) := by simp only [convV, Try.underlying48, Try.underlying25]
theorem cv25_5 {M : MP} {R W : Set'} {tm : Tm} {h : Heap} {K : V → Heap → Prop} (x : Operand) : LOp M R W tm h (.convert 25 5 x) K = onO (evV tm x) fun a => onO (convV M.P 25 5 a h) fun r => allB R r.2 ∧ K r.1 h := by
  apply LOp_convert; decide
theorem cvd25_5 {P : Program} {tm : Tm} {h : Heap} {K : V → Heap → Set' → Set' → Prop} (x : Operand) : LOpD P tm h (.convert 25 5 x) K = onO (evV tm x) fun a => onO (convV P 25 5 a h) fun r => K r.1 h (fun x => x ∈ r.2) (fun x => x ∈ ([] : List Nat)) := by
  apply LOpD_convert; decide
theorem c25_5 (h : Heap) (n : Int) : convV Try.prog 25 5 (.int .u32 n) h = some (.int .u8 (IntKind.u8.wrap n), []) := by simp only [convV, Try.underlying25, Try.underlying5]
theorem cvd5_25 {P : Program} {tm : Tm} {h : Heap} {K : V → Heap → Set' → Set' → Prop} (x : Operand) : LOpD P tm h (.convert 5 25 x) K = onO (evV tm x) fun a => onO (convV P 5 25 a h) fun r => K r.1 h (fun x => x ∈ r.2) (fun x => x ∈ ([] : List Nat)) := by
  apply LOpD_convert; decide
theorem c5_25 (h : Heap) (n : Int) : convV Try.prog 5 25 (.int .u8 n) h = some (.int .u32 (IntKind.u32.wrap n), []) := by simp only [convV, Try.underlying5, Try.underlying25]
def wordI (op d a b imm : Int) : Int := op + 256 * (16 * d + a) + 65536 * (b + imm % 65536)
theorem or_word {o d a b m : Nat} (ho : o < 256) (hd : d < 16) (ha : a < 16) (hb : b < 65536) (hm : m < 65536) (h0 : b = 0 ∨ m = 0) :
    o ||| d * 4096 = o + d * 4096 ∧ (o + d * 4096) ||| a * 256 = o + d * 4096 + a * 256 ∧ (o + d * 4096 + a * 256) ||| b * 65536 = o + d * 4096 + a * 256 + b * 65536 ∧ (o + d * 4096 + a * 256 + b * 65536) ||| m * 65536 = o + d * 4096 + a * 256 + b * 65536 + m * 65536 := by
  have e1 : o ||| d * 4096 = o + d * 4096 := or_add 12 (by omega)
  have e2 : (o + d * 4096) ||| a * 256 = o + d * 4096 + a * 256 := by
    rw [← e1, Nat.or_assoc, Nat.or_comm (d * 4096), ← Nat.or_assoc]
    rw [show o ||| a * 256 = o + a * 256 from or_add 8 (by omega), show (o + a * 256) ||| d * 4096 = o + a * 256 + d * 4096 from or_add 12 (by omega), e1]
    omega
  have e3 : (o + d * 4096 + a * 256) ||| b * 65536 = o + d * 4096 + a * 256 + b * 65536 := or_add 16 (by omega)
  refine ⟨e1, e2, e3, ?_⟩
  rcases h0 with rfl | rfl
  · exact or_add 16 (by omega)
  · simp
set_option maxHeartbeats 40000000 in
theorem iword_ok (op d a b imm : Int) (h : Heap) : SF (Try.prog : MP) 52 [insV op d a b imm] h (fun _ => False) (fun _ => False) fun v h' => v = if mayI op d a b imm = true then .tuple [.int .u32 (wordI op d a b imm), .int .i64 0] else .tuple [.int .u32 0, .int .i64 2] := by
  refine SF.go hm Try.func52 ir52_eq ?_
  simp -implicitDefEqProofs (disch := (first | omega | (simp -implicitDefEqProofs only [szs, ne_eq] <;> omega) | fail)) only [go_sem, seval, ↓reduceIte, reduceCtorEq, ir52, undefV]
  refine GCall.of (((imay_ok op d a b imm _).kept).foot (fun _ h => h.elim) (fun _ h => h.elim)) ?_
  rintro r g ⟨rfl, vf⟩
  have hb := (vf.get h.n (by simp) (by simp)).trans (w_push_eq rfl _)
  have hn := vf.n
  simp at hn
  have n0 : h.n ≤ g.n := by omega
  cases hmi : mayI op d a b imm with
  | false => simp -implicitDefEqProofs (disch := (first | omega | (simp -implicitDefEqProofs only [szs, ne_eq] <;> omega) | fail)) only [go_sem, seval, ↓reduceIte, reduceCtorEq]; try rfl
  | true =>
    have hmi2 := hmi
    unfold mayI loI hiI at hmi2
    simp only [Bool.and_eq_true, Bool.or_eq_true, decide_eq_true_eq, beq_iff_eq] at hmi2
    obtain ⟨⟨⟨⟨⟨⟨o1, ⟨⟨fd, fa⟩, fb⟩, fm⟩, rd⟩, ra⟩, rb⟩, il⟩, ih⟩ := hmi2
    have h0 : b = 0 ∨ imm = 0 := by
      rcases fb with fb | fb
      · rcases fm with fm | fm
        · unfold fldB at fb; unfold fldM at fm
          simp at fb fm
          rw [fb] at fm; simp at fm
        · exact .inr fm
      · exact .inl fb
    have hi : -32768 ≤ imm ∧ imm ≤ 65535 := by constructor <;> (split at il <;> split at ih <;> omega)
    obtain ⟨o, rfl⟩ : ∃ o : Nat, op = o := ⟨op.toNat, by omega⟩
    obtain ⟨d, rfl⟩ : ∃ o : Nat, d = o := ⟨d.toNat, by omega⟩
    obtain ⟨a, rfl⟩ : ∃ o : Nat, a = o := ⟨a.toNat, by omega⟩
    obtain ⟨b, rfl⟩ : ∃ o : Nat, b = o := ⟨b.toNat, by omega⟩
    obtain ⟨m, hm'⟩ : ∃ m : Nat, imm % 65536 = m := ⟨(imm % 65536).toNat, by omega⟩
    obtain ⟨e1, e2, e3, e4⟩ := or_word (o := o) (d := d) (a := a) (b := b) (m := m) (by omega) (by omega) (by omega) (by omega) (by omega) (by omega)
    have w1 : IntKind.u32.wrap (o : Int) = o := IntWalk.u32_in _ (by omega)
    have w2 : IntKind.u32.wrap (d : Int) = d := IntWalk.u32_in _ (by omega)
    have w3 : IntKind.u32.wrap (a : Int) = a := IntWalk.u32_in _ (by omega)
    have w4 : IntKind.u32.wrap (b : Int) = b := IntWalk.u32_in _ (by omega)
    have w5 : IntKind.u16.wrap imm = m := by rw [← hm']; rfl
    have w6 : IntKind.u32.wrap (m : Int) = m := IntWalk.u32_in _ (by omega)
    obtain ⟨x1, hx1⟩ : ∃ x : Nat, x = d * 4096 := ⟨_, rfl⟩
    obtain ⟨x2, hx2⟩ : ∃ x : Nat, x = a * 256 := ⟨_, rfl⟩
    obtain ⟨x3, hx3⟩ : ∃ x : Nat, x = b * 65536 := ⟨_, rfl⟩
    obtain ⟨x4, hx4⟩ : ∃ x : Nat, x = m * 65536 := ⟨_, rfl⟩
    rw [← hx1] at e1 e2 e3 e4
    rw [← hx2] at e2 e3 e4
    rw [← hx3] at e3 e4
    rw [← hx4] at e4
    obtain ⟨y1, hy1⟩ : ∃ y : Nat, y = o + x1 := ⟨_, rfl⟩
    rw [← hy1] at e1 e2 e3 e4
    obtain ⟨y2, hy2⟩ : ∃ y : Nat, y = y1 + x2 := ⟨_, rfl⟩
    rw [← hy2] at e2 e3 e4
    obtain ⟨y3, hy3⟩ : ∃ y : Nat, y = y2 + x3 := ⟨_, rfl⟩
    rw [← hy3] at e3 e4
    obtain ⟨y4, hy4⟩ : ∃ y : Nat, y = y3 + x4 := ⟨_, rfl⟩
    rw [← hy4] at e4
    have s1 : intShift .shl .u32 (d : Int) 12 = some (.int .u32 (x1 : Int)) := n_shl 12 (by omega) (by omega)
    have s2 : intShift .shl .u32 (a : Int) 8 = some (.int .u32 (x2 : Int)) := n_shl 8 (by omega) (by omega)
    have s3 : intShift .shl .u32 (b : Int) 16 = some (.int .u32 (x3 : Int)) := n_shl 16 (by omega) (by omega)
    have s4 : intShift .shl .u32 (m : Int) 16 = some (.int .u32 (x4 : Int)) := n_shl 16 (by omega) (by omega)
    have r1 := n_or (by omega) (by omega) e1
    have r2 := n_or (by omega) (by omega) e2
    have r3 := n_or (by omega) (by omega) e3
    have r4 := n_or (by omega) (by omega) e4
    have fin : wordI o d a b imm = y4 := by unfold wordI; omega
    simp -implicitDefEqProofs (disch := (first | omega | (simp -implicitDefEqProofs only [szs, ne_eq] <;> omega) | fail)) only [go_sem, seval, ↓reduceIte, reduceCtorEq, undefV, hb, ↓cv48_25, ↓cvD, ↓cv3_109, ↓cv109_25, c48_25, cD, c3_109, c109_25, w1, w2, w3, w4, w5, w6, ↓s1, ↓s2, ↓s3, ↓s4, ↓r1, ↓r2, ↓r3, ↓r4]
    rw [fin]
end Go.Proofs.Ytmkdbninmimndaa
