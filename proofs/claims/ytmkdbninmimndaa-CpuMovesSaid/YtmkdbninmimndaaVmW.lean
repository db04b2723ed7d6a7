/- The equations of a walk. -/
import Derived.Test.YtmkdbninmimndaaVmV
set_option linter.unusedVariables false
set_option linter.unusedSimpArgs false
namespace Go.Vm
variable {P : Program} {M : MP}

def onO {α : Type} (x : Option α) (k : α → Prop) : Prop := match x with
  | some v => k v
  | none => False
theorem onO_some {α : Type} (v : α) (k : α → Prop) : onO (some v) k = k v := rfl
theorem onO_none {α : Type} (k : α → Prop) : onO none k = False := rfl
theorem onO_ite {α : Type} (c : Prop) [Decidable c] (v : α) (k : α → Prop) : onO (if c then some v else none) k = (c ∧ k v) := by
  by_cases h : c <;> simp [h, onO]
def onPtr (x : Option V) (k : Nat → Nat → Prop) : Prop := match x with
  | some (.ptr (some (b, off))) => k b off
  | _ => False
theorem onPtr_some (b off : Nat) (k : Nat → Nat → Prop) : onPtr (some (.ptr (some (b, off)))) k = k b off := rfl
def onBool (x : Option V) (t e : Prop) : Prop := match x with
  | some (.bool true) => t
  | some (.bool false) => e
  | _ => False
theorem onBool_true (t e : Prop) : onBool (some (.bool true)) t e = t := rfl
theorem onBool_false (t e : Prop) : onBool (some (.bool false)) t e = e := rfl

section
variable (R W : Set') (tm : Tm) (h : Heap) (K : V → Heap → Prop)
theorem LOp_makeMap (t : TypeId) : LOp M R W tm h (.makeMap t none) K = K (.map (some h.n)) (h.push (.map [] 0)) := by
  unfold LOp SOp bare; simp only [evP]; simp [allB]
theorem LOp_lookup (t : TypeId) (x y : Operand) (ok : Bool) : LOp M R W tm h (.lookup t x y ok) K = onO (evV tm x) fun a => onO (evV tm y) fun k => onO (lookV M.P t h a k ok) fun r => allB R r.2 ∧ K r.1 h := by
  unfold LOp SOp bare; simp only [evP]
  cases evV tm x with
  | none => simp [onO]
  | some a =>
    cases evV tm y with
    | none => simp [onO]
    | some b => simp only [onO_some]; cases hq : lookV M.P t h a b ok <;> simp [hq, onO, allB]
theorem LOp_mapUpdate (t : TypeId) (x y z : Operand) : LOp M R W tm h (.mapUpdate t x y z) K = onO (evV tm x) fun a => onO (evV tm y) fun k => onO (evV tm z) fun v => onO (updV M.P t h a k v) fun r => allB W r.2 ∧ K undefV r.1 := by
  unfold LOp SOp bare; simp only [evP]
  cases evV tm x with
  | none => simp [onO]
  | some a =>
    cases evV tm y with
    | none => simp [onO]
    | some b =>
      cases evV tm z with
      | none => simp [onO]
      | some c => simp only [onO_some]; cases hq : updV M.P t h a b c <;> simp [hq, onO, allB]
theorem LOp_insert (t : TypeId) (x y z : Operand) : LOp M R W tm h (.insert t x y z) K = onO (evV tm x) fun a => onO (evV tm y) fun k => onO (evV tm z) fun v => onO (updV M.P t h a k v) fun r => allB W r.2 ∧ K undefV r.1 := by
  unfold LOp SOp bare; simp only [evP]
  cases evV tm x with
  | none => simp [onO]
  | some a =>
    cases evV tm y with
    | none => simp [onO]
    | some b =>
      cases evV tm z with
      | none => simp [onO]
      | some c => simp only [onO_some]; cases hq : updV M.P t h a b c <;> simp [hq, onO, allB]
theorem LOp_range (t : TypeId) (x : Operand) : LOp M R W tm h (.range t x) K = onO (evV tm x) fun a => onO (rangeV M.P t h a) fun r => allB R r.2 ∧ K (.ptr (some (h.n, 0))) (h.push r.1) := by
  unfold LOp SOp bare; simp only [evP]
  cases evV tm x with
  | none => simp [onO]
  | some a => simp only [onO_some]; cases hq : rangeV M.P t h a <;> simp [hq, onO, allB]
theorem LOp_entry (x : Operand) : LOp M R W tm h (.entry x) K = onPtr (evV tm x) fun b off => Nat.beq off 0 = true ∧ onO (entryV h b) fun r => allB R r.2 ∧ K r.1 h := by
  unfold LOp SOp bare onPtr; simp only [evP]
  cases evV tm x with
  | none => rfl
  | some a =>
    cases a <;> first | rfl | skip
    rename_i q
    rcases q with _ | ⟨b, off⟩
    · rfl
    · simp only []
      cases hz : Nat.beq off 0 with
      | false => simp
      | true => simp only [true_and]; cases hq : entryV h b <;> simp [hq, onO, allB]
theorem LOp_next (P : Program) (x : Operand) : LOp ⟨P, true⟩ R W tm h (.next x false) K = onPtr (evV tm x) fun b off => Nat.beq off 0 = true ∧ SNext R W h b K := by
  unfold LOp SOp bare onPtr; simp only []
  cases evV tm x with
  | none => rfl
  | some a =>
    cases a <;> first | rfl | skip
    rename_i q
    rcases q with _ | ⟨b, off⟩
    · rfl
    · cases off with
      | zero => simp
      | succ n => simp
theorem LOp_arrAt (t : TypeId) (x : Operand) : LOp M R W tm h (.sliceToArrayPointer t x) K = onO (evV tm x) fun a => onO (arrAtV M.P t a) fun v => K v h := by
  unfold LOp SOp bare; simp only [evP]
  cases evV tm x with
  | none => simp [onO]
  | some a => simp only [onO_some]; cases arrAtV M.P t a <;> simp [one, onO, allB]
theorem LOp_move (x : Operand) : LOp M R W tm h (.move x) K = onO (evV tm x) fun v => K v h := by
  unfold LOp SOp bare; simp only [evP]; cases evV tm x <;> simp [one, onO, allB]
theorem LOp_assign (x : Operand) : LOp M R W tm h (.assign x) K = onO (evV tm x) fun v => K v h := by
  unfold LOp SOp bare; simp only [evP]; cases evV tm x <;> simp [one, onO, allB]
theorem LOp_pick (c a b : Operand) : LOp M R W tm h (.pick c a b) K = onBool (evV tm c) (onO (evV tm a) fun v => K v h) (onO (evV tm b) fun v => K v h) := by
  unfold LOp SOp bare onBool; simp only [evP]
  split
  · rename_i pr hp
    split at hp
    · rename_i hc; obtain ⟨v, h1, rfl⟩ := one_some hp; simp [hc, h1, onO, allB]
    · rename_i hc; obtain ⟨v, h1, rfl⟩ := one_some hp; simp [hc, h1, onO, allB]
    · cases hp
  · rename_i hp
    split at hp
    · rename_i hc; cases h1 : evV tm a <;> simp [h1, one] at hp; simp [hc, onO]
    · rename_i hc; cases h1 : evV tm b <;> simp [h1, one] at hp; simp [hc, onO]
    · rename_i h1 h2
      split
      · rename_i hc; exact absurd hc h1
      · rename_i hc; exact absurd hc h2
      · rfl
theorem LOp_bin (op : BinOp) (t t' : TypeId) (x y : Operand) : LOp M R W tm h (.binOp op t x y t') K = onO (evV tm x) fun a => onO (evV tm y) fun b => onO (binN M.P op t x y a b) fun v => K v h := by
  unfold LOp SOp bare; simp only [evP]
  cases evV tm x with
  | none => simp [onO]
  | some a =>
    cases evV tm y with
    | none => simp [onO]
    | some b => simp only [onO_some]; cases binN M.P op t x y a b <;> simp [one, onO, allB]
theorem LOp_un (op : UnOp) (t : TypeId) (x : Operand) : LOp M R W tm h (.unOp op t x) K = onO (evV tm x) fun a => onO (unV op a) fun v => K v h := by
  unfold LOp SOp bare; simp only [evP]
  cases evV tm x with
  | none => simp [onO]
  | some a => simp only [onO_some]; cases unV op a <;> simp [one, onO, allB]
theorem LOp_nilCheck (x : Operand) : LOp M R W tm h (.nilCheck x) K = onO (evV tm x) fun v => notNil v = true ∧ K v h := by
  unfold LOp SOp bare; simp only [evP]
  cases evV tm x with
  | none => simp [onO]
  | some a => simp only [onO_some]; cases notNil a <;> simp [allB]
theorem LOp_makeFunc (f : FuncId) (xs ys : Array Operand) : LOp M R W tm h (.makeFunc (.func f) xs ys) K = onO (evVs tm xs.toList) fun us => onO (evVs tm ys.toList) fun vs => K (.func f us vs) h := by
  unfold LOp SOp bare; simp only [evP]
  cases evVs tm xs.toList with
  | none => simp [onO]
  | some a => cases evVs tm ys.toList <;> simp [onO, allB]
theorem LOp_extract (x : Operand) (i : Nat) : LOp M R W tm h (.extract x i) K = match evV tm x with
    | some (.tuple vs) => onO vs[i]? fun v => K v h
    | _ => False := by
  unfold LOp SOp bare; simp only [evP]
  cases evV tm x with
  | none => rfl
  | some a => cases a <;> first | rfl | (rename_i vs; cases hq : vs[i]? <;> simp [hq, one, onO, allB])
theorem LOp_fieldAddr (s : TypeId) (x : Operand) (f : Nat) : LOp M R W tm h (.fieldAddr s x f) K = onPtr (evV tm x) fun b off => onO (fieldOff M.P s f) fun k => K (.ptr (some (b, off + k))) h := by
  unfold LOp SOp bare onPtr; simp only [evP]
  split
  · rename_i pr hp
    split at hp
    · rename_i b off hx
      split at hp
      · rename_i k hf; cases hp; simp [hx, hf, onO, allB]
      · cases hp
    · cases hp
  · rename_i hp
    split at hp
    · rename_i b off hx
      split at hp
      · cases hp
      · rename_i hf; simp [hx, hf, onO]
    · rename_i hne
      split
      · rename_i b off hx; exact absurd hx (hne b off)
      · rfl
theorem LOp_indexAddr (t : TypeId) (x ix : Operand) : LOp M R W tm h (.indexAddr t x ix) K = onO (evV tm x) fun a => onO (evV tm ix) fun b => onO (idxAddr M.P t a b) fun v => K v h := by
  unfold LOp SOp bare; simp only [evP]
  cases evV tm x with
  | none => simp [onO]
  | some a =>
    cases evV tm ix with
    | none => simp [onO]
    | some b => simp only [onO_some]; cases idxAddr M.P t a b <;> simp [one, onO, allB]
theorem LOp_load (t : TypeId) (x : Operand) : LOp M R W tm h (.load t x) K = onPtr (evV tm x) fun b off => R b ∧ onO (loadV M.P t h b off) fun v => K v h := by
  unfold LOp SOp bare onPtr; simp only [evP]
  split
  · rename_i pr hp
    split at hp
    · rename_i b off hx
      split at hp
      · rename_i k hf; cases hp; simp [hx, hf, onO, allB]
      · cases hp
    · cases hp
  · rename_i hp
    split at hp
    · rename_i b off hx
      split at hp
      · cases hp
      · rename_i hf; simp [hx, hf, onO]
    · rename_i hne
      split
      · rename_i b off hx; exact absurd hx (hne b off)
      · rfl
theorem LOp_store (t : TypeId) (x y : Operand) : LOp M R W tm h (.store t x y) K = onPtr (evV tm x) fun b off => onO (evV tm y) fun v => W b ∧ onO (storeV M.P t h b off v) fun h' => K undefV h' := by
  unfold LOp SOp bare onPtr; simp only [evP]
  split
  · rename_i pr hp
    split at hp
    · rename_i b off v hx hy
      split at hp
      · rename_i h' hf; cases hp; simp [hx, hy, hf, onO, allB]
      · cases hp
    · cases hp
  · rename_i hp
    split at hp
    · rename_i b off v hx hy
      split at hp
      · cases hp
      · rename_i hf; simp [hx, hy, hf, onO]
    · rename_i hne
      split
      · rename_i b off hx
        cases hy : evV tm y with
        | none => simp [onO]
        | some v => exact absurd hy (hne b off v hx)
      · rfl
theorem LOp_box (t : TypeId) (x : Operand) : LOp M R W tm h (.box t x) K = onO (evV tm x) fun v => K (.ptr (some (h.n, 0))) (h.push (.cells (Blk.of v.cellsV) t)) := by
  unfold LOp SOp bare; simp only [evP]; cases evV tm x <;> simp [onO, allB]
theorem LOp_alloc (t : TypeId) : LOp M R W tm h (.alloc t) K = onO (zeroV M.P t) fun v => K (.ptr (some (h.n, 0))) (h.push (.cells (Blk.of v.cellsV) t)) := by
  unfold LOp SOp bare; simp only [evP]; cases zeroV M.P t <;> simp [onO, allB]
theorem LOp_makeSlice (t : TypeId) (x y : Operand) : LOp M R W tm h (.makeSlice t x y) K = match evV tm x, evV tm y with
    | some (.int _ l), some (.int _ c) => onO (makeSliceV M.P t l c h) fun r => K r.1 r.2
    | _, _ => False := by
  unfold LOp SOp bare; simp only [evP]
  cases evV tm x with
  | none => rfl
  | some a =>
    cases evV tm y with
    | none => cases a <;> rfl
    | some b => cases a <;> cases b <;> first | rfl | (rename_i k l k' c; cases hq : makeSliceV M.P t l c h <;> simp [hq, onO, allB])
theorem LOp_build (t : TypeId) (ps : Array (Nat × Operand)) : LOp M R W tm h (.build t ps) K = onO (evParts tm ps.toList) fun vs => onO (builtV M.P t vs) fun r => K (.agg r) h := by
  unfold LOp SOp bare; simp only [evP]
  cases evParts tm ps.toList with
  | none => simp [onO]
  | some a => simp only [onO_some]; cases builtV M.P t a <;> simp [onO, allB]
theorem LOp_buildSlice (t : TypeId) (n : Nat) (ps : Array (Nat × Operand)) : LOp M R W tm h (.buildSlice t n ps) K = onO (evParts tm ps.toList) fun vs => onO (builtSliceV M.P t n vs) fun r => K (.slice (some (h.n, 0)) n n true) (h.push (.cells (Blk.of r.2) r.1)) := by
  unfold LOp SOp bare; simp only [evP]
  cases evParts tm ps.toList with
  | none => simp [onO]
  | some a => simp only [onO_some]; cases builtSliceV M.P t n a <;> simp [onO, allB]
theorem LOp_slice (t : TypeId) (x : Operand) (lo hi mx : Option Operand) : LOp M R W tm h (.slice t x lo hi mx) K = onO (evV tm x) fun a => onO (evI tm lo) fun l => onO (evI tm hi) fun u => onO (evI tm mx) fun m => onO (sliceV M.P t a (l.map (·.2)) (u.map (·.2)) (m.map (·.2))) fun v => K v h := by
  unfold LOp SOp bare; simp only [evP]
  cases evV tm x with
  | none => simp [onO]
  | some a =>
    cases evI tm lo with
    | none => simp [onO]
    | some l =>
      cases evI tm hi with
      | none => simp [onO]
      | some u =>
        cases evI tm mx with
        | none => simp [onO]
        | some m => simp only [onO_some]; cases sliceV M.P t a (l.map (·.2)) (u.map (·.2)) (m.map (·.2)) <;> simp [one, onO, allB]
theorem LOp_convert (s d : TypeId) (x : Operand) (hsd : s ≠ d) : LOp M R W tm h (.convert s d x) K = onO (evV tm x) fun a => onO (convV M.P s d a h) fun r => allB R r.2 ∧ K r.1 h := by
  have hb : Nat.beq s d = false := by
    cases hq : Nat.beq s d with
    | false => rfl
    | true => exact absurd (Nat.eq_of_beq_eq_true hq) hsd
  unfold LOp SOp bare; simp only [evP, hb]
  cases evV tm x with
  | none => simp [onO]
  | some a => simp only [onO_some]; cases convV M.P s d a h <;> simp [onO, allB]
theorem LOp_field (t : TypeId) (x : Operand) (f : Nat) : LOp M R W tm h (.field t x f) K = match evV tm x with
    | some (.agg c) => onO (fieldV M.P t c f) fun v => K v h
    | _ => False := by
  unfold LOp SOp bare; simp only [evP]
  cases evV tm x with
  | none => rfl
  | some a => cases a <;> first | rfl | (rename_i c; cases hq : fieldV M.P t c f <;> simp [hq, one, onO, allB])
theorem LOp_index (t : TypeId) (x y : Operand) : LOp M R W tm h (.index t x y) K = match evV tm x, evV tm y with
    | some a, some (.int _ i) => onO (indexV M.P t a i) fun v => K v h
    | _, _ => False := by
  unfold LOp SOp bare; simp only [evP]
  cases evV tm x with
  | none => rfl
  | some a =>
    cases evV tm y with
    | none => rfl
    | some b => cases b <;> first | rfl | (rename_i k i; cases hq : indexV M.P t a i <;> simp [hq, one, onO, allB])
theorem LOp_builtin (b : Builtin) (args : Array Operand) (ts : Array TypeId) : LOp M R W tm h (.call ⟨.builtin b, args, ts⟩) K = onO (evVs tm args.toList) fun vs => onO (evB M.P h b ts vs) fun pr => allB R pr.r ∧ allB W pr.w ∧ K pr.v pr.h := by
  unfold LOp SOp bare; simp only [evP]
  cases evVs tm args.toList with
  | none => simp [onO]
  | some a => simp only [onO_some]; cases evB M.P h b ts a <;> simp [onO]
theorem LOp_call (g : FuncId) (args : Array Operand) (ts : Array TypeId) : LOp M R W tm h (.call ⟨.value (.func g), args, ts⟩) K = onO (evVs tm args.toList) fun vs => callable M.P g = true ∧ SF M g vs h R W K := by
  unfold LOp SOp bare; simp only [evV_func]
  cases evVs tm args.toList with
  | none => simp [onO]
  | some a => simp [onO]
theorem LOp_callv (x : Operand) (args : Array Operand) (ts : Array TypeId) : LOp M R W tm h (.call ⟨.value x, args, ts⟩) K = match evV tm x with
    | some (.func g xs ys) => onO (evVs tm args.toList) fun vs => callable M.P g = true ∧ SF M g ((xs ++ vs) ++ ys) h R W K
    | some (.yield l) => onO (evVs tm args.toList) fun vs => SY M l vs h R W K
    | _ => False := by
  unfold LOp SOp bare; simp only []
  cases evV tm x with
  | none => rfl
  | some a => cases a <;> first | rfl | (cases evVs tm args.toList <;> simp [onO])
theorem LOp_invoke (x : Operand) (name : String) (args : Array Operand) (ts : Array TypeId) : LOp M R W tm h (.call ⟨.invoke x name, args, ts⟩) K = match evV tm x with
    | some (.iface t v) => onO (methV M.P t name) fun g => onO (evVs tm args.toList) fun vs => callable M.P g = true ∧ SF M g (v :: vs) h R W K
    | _ => False := by
  unfold LOp SOp bare; simp only []
  cases evV tm x with
  | none => rfl
  | some a => cases a <;> first | rfl | (simp only []; cases methV M.P _ name <;> first | rfl | (cases evVs tm args.toList <;> simp [onO]))
end

/-- In a statement whose order is open: as elsewhere, but each operation's own footprint is kept. -/
theorem LOpD_call (tm : Tm) (h : Heap) (K : V → Heap → Set' → Set' → Prop) (g : FuncId) (args : Array Operand) (ts : Array TypeId) : LOpD P tm h (.call ⟨.value (.func g), args, ts⟩) K = onO (evVs tm args.toList) fun vs => callable P g = true ∧ ∃ R W, SF (P : MP) g vs h R W fun v h' => K v h' R W := by
  unfold LOpD SOpD bare; simp only [evV_func]
  cases evVs tm args.toList with
  | none => simp [onO]
  | some a => simp [onO]
theorem LOpD_invoke (tm : Tm) (h : Heap) (K : V → Heap → Set' → Set' → Prop) (x : Operand) (name : String) (args : Array Operand) (ts : Array TypeId) : LOpD P tm h (.call ⟨.invoke x name, args, ts⟩) K = match evV tm x with
    | some (.iface t v) => onO (methV P t name) fun g => onO (evVs tm args.toList) fun vs => callable P g = true ∧ ∃ R W, SF (P : MP) g (v :: vs) h R W fun v h' => K v h' R W
    | _ => False := by
  unfold LOpD SOpD bare; simp only []
  cases evV tm x with
  | none => rfl
  | some a => cases a <;> first | rfl | (simp only []; cases methV P _ name <;> first | rfl | (cases evVs tm args.toList <;> simp [onO]))
def isCall : Op → Bool
  | .call { callee := .value _, .. } => true
  | .call { callee := .invoke .., .. } => true
  | _ => false
theorem LOpD_prim (tm : Tm) (h : Heap) (K : V → Heap → Set' → Set' → Prop) (op : Op) (ho : isCall op = false) : LOpD P tm h op K = onO (evP P tm h (bare op)) fun pr => K pr.v pr.h (· ∈ pr.r) (· ∈ pr.w) := by
  unfold LOpD SOpD
  split
  · rename_i f args ts e
    have : op = .call ⟨.value f, args, ts⟩ := e
    subst this; cases ho
  · rename_i r name args ts e
    have : op = .call ⟨.invoke r name, args, ts⟩ := e
    subst this; cases ho
  · cases evP P tm h (bare op) <;> simp [onO]
theorem LOps_cons (R W : Set') (d : Option Tmp) (op : Op) (l : List LO) (tm : Tm) (h : Heap) (K : Tm → Heap → Prop) : LOps M R W (⟨d, op, none⟩ :: l) tm h K = LOp M R W tm h op fun v h' => LOps M R W l (tm.put d v) h' K := rfl
theorem LOps_nil (R W : Set') (tm : Tm) (h : Heap) (K : Tm → Heap → Prop) : LOps M R W [] tm h K = K tm h := rfl
theorem LOps_guard (R W : Set') (d : Option Tmp) (op : Op) (t : Tmp) (want : Bool) (l : List LO) (tm : Tm) (h : Heap) (K : Tm → Heap → Prop) :
    LOps M R W (⟨d, op, some (t, want)⟩ :: l) tm h K = match wantL tm (some (t, want)) with
      | some true => LOp M R W tm h op fun v h' => LOps M R W l (tm.put d v) h' K
      | some false => LOps M R W l (tm.put d undefV) h K
      | none => False := rfl
theorem wantL_some (tm : Tm) (t : Tmp) (want : Bool) : wantL tm (some (t, want)) = match tm.get t with
    | some (.bool b) => some (b == want)
    | some (.raw _) => none
    | some _ => some false
    | none => none := rfl

theorem Ex.next_eq (K : Fr → Heap → Prop) (Q : Ex → Fr → Heap → Prop) (e : Ex) (f : Fr) (h : Heap) : Ex.next K Q e f h = match e with
    | .norm => K f h
    | .exit id => Q (.exit id) f h
    | .ret => Q .ret f h := by cases e <;> rfl
theorem onO_eq {α : Type} (x : Option α) (k : α → Prop) : onO x k = match x with
    | some v => k v
    | none => False := rfl
theorem onPtr_eq (x : Option V) (k : Nat → Nat → Prop) : onPtr x k = match x with
    | some (.ptr (some (b, off))) => k b off
    | _ => False := rfl
theorem onBool_eq (x : Option V) (t e : Prop) : onBool x t e = match x with
    | some (.bool true) => t
    | some (.bool false) => e
    | _ => False := rfl

theorem beq_ft : (false == true) = false := rfl
theorem beq_tf : (true == false) = false := rfl
theorem beq_tt : (true == true) = true := rfl
theorem beq_ff : (false == false) = true := rfl
theorem wantL_at (b want : Bool) : (match some (V.bool b) with
    | some (.bool b) => some (b == want)
    | some (.raw _) => none
    | some _ => some false
    | none => none) = some (b == want) := rfl

/-- The loops over functions in a text: what they assign and their bodies. -/
def rangesOf : Code → List (Code × Code)
  | .seq a b => rangesOf a ++ rangesOf b
  | .cond _ a b => rangesOf a ++ rangesOf b
  | .block _ c => rangesOf c
  | .loop c => rangesOf c
  | .scope c => rangesOf c
  | .rangeFunc _ _ a b => [(a, b)]
  | _ => []

end Go.Vm
