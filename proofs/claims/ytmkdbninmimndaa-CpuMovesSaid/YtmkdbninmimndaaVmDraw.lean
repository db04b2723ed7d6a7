/- Further operations within a draw. -/
import Derived.Test.YtmkdbninmimndaaVmApp
set_option linter.unusedVariables false
set_option linter.unusedSimpArgs false
namespace Go.Vm
section
variable {P : Program} {tm : Tm} {h : Heap} {K : V → Heap → Set' → Set' → Prop}
theorem LOpD_makeMap (t : TypeId) : LOpD P tm h (.makeMap t none) K = K (.map (some h.n)) (h.push (.map [] 0)) (fun x => x ∈ ([] : List Nat)) (fun x => x ∈ ([] : List Nat)) := by
  unfold LOpD SOpD bare; simp only [evP]
theorem LOpD_lookup (t : TypeId) (x y : Operand) (ok : Bool) : LOpD P tm h (.lookup t x y ok) K = onO (evV tm x) fun a => onO (evV tm y) fun k => onO (lookV P t h a k ok) fun r => K r.1 h (fun x => x ∈ r.2) (fun x => x ∈ ([] : List Nat)) := by
  unfold LOpD SOpD bare; simp only [evP]
  cases evV tm x with
  | none => simp [onO]
  | some a =>
    cases evV tm y with
    | none => simp [onO]
    | some b => simp only [onO_some]; cases hq : lookV P t h a b ok <;> simp [hq, onO]
theorem LOpD_mapUpdate (t : TypeId) (x y z : Operand) : LOpD P tm h (.mapUpdate t x y z) K = onO (evV tm x) fun a => onO (evV tm y) fun k => onO (evV tm z) fun v => onO (updV P t h a k v) fun r => K undefV r.1 (fun x => x ∈ ([] : List Nat)) (fun x => x ∈ r.2) := by
  unfold LOpD SOpD bare; simp only [evP]
  cases evV tm x with
  | none => simp [onO]
  | some a =>
    cases evV tm y with
    | none => simp [onO]
    | some b =>
      cases evV tm z with
      | none => simp [onO]
      | some c => simp only [onO_some]; cases hq : updV P t h a b c <;> simp [hq, onO]
theorem LOpD_insert (t : TypeId) (x y z : Operand) : LOpD P tm h (.insert t x y z) K = onO (evV tm x) fun a => onO (evV tm y) fun k => onO (evV tm z) fun v => onO (updV P t h a k v) fun r => K undefV r.1 (fun x => x ∈ ([] : List Nat)) (fun x => x ∈ r.2) := by
  unfold LOpD SOpD bare; simp only [evP]
  cases evV tm x with
  | none => simp [onO]
  | some a =>
    cases evV tm y with
    | none => simp [onO]
    | some b =>
      cases evV tm z with
      | none => simp [onO]
      | some c => simp only [onO_some]; cases hq : updV P t h a b c <;> simp [hq, onO]
theorem LOpD_buildSlice (t : TypeId) (n : Nat) (ps : Array (Nat × Operand)) : LOpD P tm h (.buildSlice t n ps) K = onO (evParts tm ps.toList) fun vs => onO (builtSliceV P t n vs) fun r => K (.slice (some (h.n, 0)) n n true) (h.push (.cells (Blk.of r.2) r.1)) (fun x => x ∈ ([] : List Nat)) (fun x => x ∈ ([] : List Nat)) := by
  unfold LOpD SOpD bare; simp only [evP]
  cases evParts tm ps.toList with
  | none => simp [onO]
  | some a => simp only [onO_some]; cases hq : builtSliceV P t n a <;> simp [hq, onO]
theorem LOpD_slice (t : TypeId) (x : Operand) (lo hi mx : Option Operand) : LOpD P tm h (.slice t x lo hi mx) K = onO (evV tm x) fun a => onO (evI tm lo) fun l => onO (evI tm hi) fun u => onO (evI tm mx) fun m => onO (sliceV P t a (l.map (·.2)) (u.map (·.2)) (m.map (·.2))) fun v => K v h (fun x => x ∈ ([] : List Nat)) (fun x => x ∈ ([] : List Nat)) := by
  unfold LOpD SOpD bare; simp only [evP]
  cases evV tm x with
  | none => simp [onO]
  | some a =>
    cases evI tm lo with
    | none => simp [onO]
    | some l =>
      cases evI tm hi with
      | none => simp [onO]
      | some u =>
        cases evI tm mx with
        | none => simp [onO]
        | some m => simp only [onO_some]; cases hq : sliceV P t a (l.map (·.2)) (u.map (·.2)) (m.map (·.2)) <;> simp [hq, one, onO]
theorem LOpD_arrAt (t : TypeId) (x : Operand) : LOpD P tm h (.sliceToArrayPointer t x) K = onO (evV tm x) fun a => onO (arrAtV P t a) fun v => K v h (fun x => x ∈ ([] : List Nat)) (fun x => x ∈ ([] : List Nat)) := by
  unfold LOpD SOpD bare; simp only [evP]
  cases evV tm x with
  | none => simp [onO]
  | some a => simp only [onO_some]; cases hq : arrAtV P t a <;> simp [hq, one, onO]
theorem LOpD_field (t : TypeId) (x : Operand) (f : Nat) : LOpD P tm h (.field t x f) K = match evV tm x with
    | some (.agg c) => onO (fieldV P t c f) fun v => K v h (fun x => x ∈ ([] : List Nat)) (fun x => x ∈ ([] : List Nat))
    | _ => False := by
  unfold LOpD SOpD bare; simp only [evP]
  cases evV tm x with
  | none => rfl
  | some a => cases a <;> first | rfl | (rename_i c; cases hq : fieldV P t c f <;> simp [hq, one, onO])
theorem LOpD_index (t : TypeId) (x y : Operand) : LOpD P tm h (.index t x y) K = match evV tm x, evV tm y with
    | some vx, some (.int _ i) => onO (indexV P t vx i) fun v => K v h (fun x => x ∈ ([] : List Nat)) (fun x => x ∈ ([] : List Nat))
    | _, _ => False := by
  unfold LOpD SOpD bare; simp only [evP]
  cases evV tm x with
  | none => rfl
  | some a =>
    cases evV tm y with
    | none => rfl
    | some b => cases b <;> first | rfl | (rename_i k i; cases hq : indexV P t a i <;> simp [hq, one, onO])
theorem LOpD_makeFunc (f : FuncId) (xs ys : Array Operand) : LOpD P tm h (.makeFunc (.func f) xs ys) K = onO (evVs tm xs.toList) fun us => onO (evVs tm ys.toList) fun vs => K (.func f us vs) h (fun x => x ∈ ([] : List Nat)) (fun x => x ∈ ([] : List Nat)) := by
  unfold LOpD SOpD bare; simp only [evP]
  cases evVs tm xs.toList with
  | none => simp [onO]
  | some a => simp only [onO_some]; cases hq : evVs tm ys.toList <;> simp [onO]
end
attribute [go_sem ↓] LOpD_makeMap LOpD_lookup LOpD_mapUpdate LOpD_insert LOpD_buildSlice LOpD_slice LOpD_arrAt LOpD_field LOpD_index LOpD_makeFunc
end Go.Vm
