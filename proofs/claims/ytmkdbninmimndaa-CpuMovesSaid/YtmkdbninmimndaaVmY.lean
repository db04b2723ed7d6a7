/- The equations of a walk in a statement whose order is open. -/
import Derived.Test.YtmkdbninmimndaaVmX
set_option linter.unusedVariables false
set_option linter.unusedSimpArgs false
namespace Go.Vm
variable {P : Program}

section
variable (tm : Tm) (h : Heap) (K : V → Heap → Set' → Set' → Prop)
theorem LOpD_move (x : Operand) : LOpD P tm h (.move x) K = onO (evV tm x) fun v => K v h (fun x => x ∈ ([] : List Nat)) (fun x => x ∈ ([] : List Nat)) := by
  unfold LOpD SOpD bare; simp only [evP]
  cases evV tm x with
  | none => simp [one, onO]
  | some a => simp [one, onO]
theorem LOpD_assign (x : Operand) : LOpD P tm h (.assign x) K = onO (evV tm x) fun v => K v h (fun x => x ∈ ([] : List Nat)) (fun x => x ∈ ([] : List Nat)) := by
  unfold LOpD SOpD bare; simp only [evP]
  cases evV tm x with
  | none => simp [one, onO]
  | some a => simp [one, onO]
theorem LOpD_pick (c a b : Operand) : LOpD P tm h (.pick c a b) K = onBool (evV tm c) (onO (evV tm a) fun v => K v h (fun x => x ∈ ([] : List Nat)) (fun x => x ∈ ([] : List Nat))) (onO (evV tm b) fun v => K v h (fun x => x ∈ ([] : List Nat)) (fun x => x ∈ ([] : List Nat))) := by
  unfold LOpD SOpD bare onBool; simp only [evP]
  cases evV tm c with
  | none => rfl
  | some q =>
    cases q <;> first | rfl | skip
    rename_i t
    cases t
    · cases evV tm b <;> simp [one, onO]
    · cases evV tm a <;> simp [one, onO]
theorem LOpD_bin (op : BinOp) (t t' : TypeId) (x y : Operand) : LOpD P tm h (.binOp op t x y t') K = onO (evV tm x) fun a => onO (evV tm y) fun b => onO (binN P op t x y a b) fun v => K v h (fun x => x ∈ ([] : List Nat)) (fun x => x ∈ ([] : List Nat)) := by
  unfold LOpD SOpD bare; simp only [evP]
  cases evV tm x with
  | none => simp [onO]
  | some a =>
    cases evV tm y with
    | none => simp [onO]
    | some b => simp only [onO_some]; cases hq : binN P op t x y a b <;> simp [hq, one, onO]
theorem LOpD_un (op : UnOp) (t : TypeId) (x : Operand) : LOpD P tm h (.unOp op t x) K = onO (evV tm x) fun a => onO (unV op a) fun v => K v h (fun x => x ∈ ([] : List Nat)) (fun x => x ∈ ([] : List Nat)) := by
  unfold LOpD SOpD bare; simp only [evP]
  cases evV tm x with
  | none => simp [onO]
  | some a => simp only [onO_some]; cases hq : unV op a <;> simp [hq, one, onO]
theorem LOpD_nilCheck (x : Operand) : LOpD P tm h (.nilCheck x) K = onO (evV tm x) fun v => notNil v = true ∧ K v h (fun x => x ∈ ([] : List Nat)) (fun x => x ∈ ([] : List Nat)) := by
  unfold LOpD SOpD bare; simp only [evP]
  cases evV tm x with
  | none => simp [onO]
  | some a => simp only [onO_some]; cases hq : notNil a <;> simp [hq]
theorem LOpD_fieldAddr (s : TypeId) (x : Operand) (f : Nat) : LOpD P tm h (.fieldAddr s x f) K = onPtr (evV tm x) fun b off => onO (fieldOff P s f) fun k => K (.ptr (some (b, off + k))) h (fun x => x ∈ ([] : List Nat)) (fun x => x ∈ ([] : List Nat)) := by
  unfold LOpD SOpD bare onPtr; simp only [evP]
  cases evV tm x with
  | none => rfl
  | some a =>
    cases a <;> first | rfl | skip
    rename_i q
    rcases q with _ | ⟨b, off⟩
    · rfl
    · cases hq : fieldOff P s f <;> simp [hq, onO]
theorem LOpD_indexAddr (t : TypeId) (x y : Operand) : LOpD P tm h (.indexAddr t x y) K = onO (evV tm x) fun a => onO (evV tm y) fun b => onO (idxAddr P t a b) fun v => K v h (fun x => x ∈ ([] : List Nat)) (fun x => x ∈ ([] : List Nat)) := by
  unfold LOpD SOpD bare; simp only [evP]
  cases evV tm x with
  | none => simp [onO]
  | some a =>
    cases evV tm y with
    | none => simp [onO]
    | some b => simp only [onO_some]; cases hq : idxAddr P t a b <;> simp [hq, one, onO]
theorem LOpD_load (t : TypeId) (x : Operand) : LOpD P tm h (.load t x) K = onPtr (evV tm x) fun b off => onO (loadV P t h b off) fun v => K v h (fun x => x ∈ [b]) (fun x => x ∈ ([] : List Nat)) := by
  unfold LOpD SOpD bare onPtr; simp only [evP]
  cases evV tm x with
  | none => rfl
  | some a =>
    cases a <;> first | rfl | skip
    rename_i q
    rcases q with _ | ⟨b, off⟩
    · rfl
    · cases hq : loadV P t h b off <;> simp [hq, onO]
theorem LOpD_store (t : TypeId) (x y : Operand) : LOpD P tm h (.store t x y) K = onPtr (evV tm x) fun b off => onO (evV tm y) fun v => onO (storeV P t h b off v) fun h' => K undefV h' (fun x => x ∈ ([] : List Nat)) (fun x => x ∈ [b]) := by
  unfold LOpD SOpD bare onPtr; simp only [evP]
  cases evV tm x with
  | none => rfl
  | some a =>
    cases a <;> first | rfl | skip
    rename_i q
    rcases q with _ | ⟨b, off⟩
    · rfl
    · cases evV tm y with
      | none => simp [onO]
      | some v => simp only [onO_some]; cases hq : storeV P t h b off v <;> simp [hq, onO]
theorem LOpD_box (t : TypeId) (x : Operand) : LOpD P tm h (.box t x) K = onO (evV tm x) fun v => K (.ptr (some (h.n, 0))) (h.push (.cells (Blk.of v.cellsV) t)) (fun x => x ∈ ([] : List Nat)) (fun x => x ∈ ([] : List Nat)) := by
  unfold LOpD SOpD bare; simp only [evP]; cases evV tm x <;> simp [onO]
theorem LOpD_alloc (t : TypeId) : LOpD P tm h (.alloc t) K = onO (zeroV P t) fun v => K (.ptr (some (h.n, 0))) (h.push (.cells (Blk.of v.cellsV) t)) (fun x => x ∈ ([] : List Nat)) (fun x => x ∈ ([] : List Nat)) := by
  unfold LOpD SOpD bare; simp only [evP]; cases zeroV P t <;> simp [onO]
theorem LOpD_extract (x : Operand) (i : Nat) : LOpD P tm h (.extract x i) K = match evV tm x with
    | some (.tuple vs) => onO vs[i]? fun v => K v h (fun x => x ∈ ([] : List Nat)) (fun x => x ∈ ([] : List Nat))
    | _ => False := by
  unfold LOpD SOpD bare; simp only [evP]
  cases evV tm x with
  | none => rfl
  | some a => cases a <;> first | rfl | (rename_i vs; cases hq : vs[i]? <;> simp [hq, one, onO])
theorem LOpD_makeSlice (t : TypeId) (x y : Operand) : LOpD P tm h (.makeSlice t x y) K = match evV tm x, evV tm y with
    | some (.int _ l), some (.int _ c) => onO (makeSliceV P t l c h) fun r => K r.1 r.2 (fun x => x ∈ ([] : List Nat)) (fun x => x ∈ ([] : List Nat))
    | _, _ => False := by
  unfold LOpD SOpD bare; simp only [evP]
  cases evV tm x with
  | none => rfl
  | some a =>
    cases evV tm y with
    | none => cases a <;> rfl
    | some b => cases a <;> cases b <;> first | rfl | (rename_i k l k' c; cases hq : makeSliceV P t l c h <;> simp [hq, onO])
theorem LOpD_build (t : TypeId) (ps : Array (Nat × Operand)) : LOpD P tm h (.build t ps) K = onO (evParts tm ps.toList) fun vs => onO (builtV P t vs) fun r => K (.agg r) h (fun x => x ∈ ([] : List Nat)) (fun x => x ∈ ([] : List Nat)) := by
  unfold LOpD SOpD bare; simp only [evP]
  cases evParts tm ps.toList with
  | none => simp [onO]
  | some a => simp only [onO_some]; cases hq : builtV P t a <;> simp [hq, onO]
theorem LOpD_convert (s d : TypeId) (x : Operand) (hsd : s ≠ d) : LOpD P tm h (.convert s d x) K = onO (evV tm x) fun a => onO (convV P s d a h) fun r => K r.1 h (fun x => x ∈ r.2) (fun x => x ∈ ([] : List Nat)) := by
  have hb : Nat.beq s d = false := by
    cases hq : Nat.beq s d with
    | false => rfl
    | true => exact absurd (Nat.eq_of_beq_eq_true hq) hsd
  unfold LOpD SOpD bare; simp only [evP, hb]
  cases evV tm x with
  | none => simp [onO]
  | some a => simp only [onO_some]; cases hq : convV P s d a h <;> simp [hq, onO]
theorem LOpD_builtin (b : Builtin) (args : Array Operand) (ts : Array TypeId) : LOpD P tm h (.call ⟨.builtin b, args, ts⟩) K = onO (evVs tm args.toList) fun vs => onO (evB P h b ts vs) fun pr => K pr.v pr.h (fun x => x ∈ pr.r) (fun x => x ∈ pr.w) := by
  unfold LOpD SOpD bare; simp only [evP]
  cases evVs tm args.toList with
  | none => simp [onO]
  | some a => simp only [onO_some]; cases hq : evB P h b ts a <;> simp [hq, onO]
end
theorem LRows_nil (tm : Tm) (h : Heap) (rows : List RowP) (K : Tm → Heap → List RowP → Prop) : LRows P [] tm h rows K = K tm h rows := rfl
theorem LRows_cons (d : Option Tmp) (op : Op) (l : List LO) (tm : Tm) (h : Heap) (rows : List RowP) (K : Tm → Heap → List RowP → Prop) : LRows P (⟨d, op, none⟩ :: l) tm h rows K = LOpD P tm h op fun v h' R W => LRows P l (tm.put d v) h' (rows ++ [⟨R, W, h.n, h'.n⟩]) K := rfl
theorem LRows_guard (d : Option Tmp) (op : Op) (t : Tmp) (want : Bool) (l : List LO) (tm : Tm) (h : Heap) (rows : List RowP) (K : Tm → Heap → List RowP → Prop) : LRows P (⟨d, op, some (t, want)⟩ :: l) tm h rows K = match wantL tm (some (t, want)) with
    | some true => LOpD P tm h op fun v h' R W => LRows P l (tm.put d v) h' (rows ++ [⟨R, W, h.n, h'.n⟩]) K
    | some false => LRows P l (tm.put d undefV) h (rows ++ [⟨fun _ => False, fun _ => False, h.n, h.n⟩]) K
    | none => False := rfl
theorem LDraw_eq (R W : Set') (l : List LO) (ps : List (Nat × Nat)) (tm : Tm) (h : Heap) (K : Tm → Heap → Prop) : LDraw P R W l ps tm h K = LRows P l tm h [] fun tm' h' rows => pairsP rows ps ∧ footP R W h.n rows ∧ K tm' h' := rfl
attribute [go_sem ↓] LRows_nil LRows_cons LRows_guard LDraw_eq LOpD_move LOpD_assign LOpD_pick LOpD_bin LOpD_un LOpD_nilCheck LOpD_fieldAddr LOpD_indexAddr LOpD_load LOpD_store LOpD_box LOpD_alloc LOpD_extract LOpD_makeSlice LOpD_build LOpD_convert LOpD_builtin LOpD_call
attribute [go_sem] pairsP footP ApartP

end Go.Vm
