/- The words by which a walk is reckoned. -/
import Derived.Test.YtmkdbninmimndaaVmT
set_option linter.unusedVariables false
set_option linter.unusedSimpArgs false
namespace Go.Vm
variable {P : Program}

theorem Tr.get_node {α : Type} (l r : Tr α) (v : Option α) (n : Nat) : (Tr.node l v r).get n = if n = 0 then v else if n % 2 = 1 then l.get (n / 2) else r.get (n / 2 - 1) := by
  rw [Tr.get]
  cases h0 : Nat.beq n 0 with
  | true => have := Nat.eq_of_beq_eq_true h0; simp [this]
  | false =>
    have : n ≠ 0 := fun e => by subst e; simp at h0
    rw [if_neg this]
    cases h1 : Nat.beq (n % 2) 1 with
    | true => have := Nat.eq_of_beq_eq_true h1; rw [if_pos this]
    | false => have : n % 2 ≠ 1 := fun e => by rw [e] at h1; simp at h1
               rw [if_neg this]
theorem Tr.put_node {α : Type} (f : Nat) (l r : Tr α) (v : Option α) (n : Nat) (x : α) : Tr.put (f + 1) (Tr.node l v r) n x = if n = 0 then .node l (some x) r else if n % 2 = 1 then .node (Tr.put f l (n / 2) x) v r else .node l v (Tr.put f r (n / 2 - 1) x) := by
  rw [Tr.put]
  cases h0 : Nat.beq n 0 with
  | true => have := Nat.eq_of_beq_eq_true h0; simp [this]
  | false =>
    have : n ≠ 0 := fun e => by subst e; simp at h0
    rw [if_neg this]
    cases h1 : Nat.beq (n % 2) 1 with
    | true => have := Nat.eq_of_beq_eq_true h1; rw [if_pos this]
    | false => have : n % 2 ≠ 1 := fun e => by rw [e] at h1; simp at h1
               rw [if_neg this]
theorem Tr.put_nil {α : Type} (f : Nat) (n : Nat) (x : α) : Tr.put (f + 1) Tr.nil n x = if n = 0 then .node .nil (some x) .nil else if n % 2 = 1 then .node (Tr.put f .nil (n / 2) x) none .nil else .node .nil none (Tr.put f .nil (n / 2 - 1) x) := by
  rw [Tr.put]
  cases h0 : Nat.beq n 0 with
  | true => have := Nat.eq_of_beq_eq_true h0; simp [this]
  | false =>
    have : n ≠ 0 := fun e => by subst e; simp at h0
    rw [if_neg this]
    cases h1 : Nat.beq (n % 2) 1 with
    | true => have := Nat.eq_of_beq_eq_true h1; rw [if_pos this]
    | false => have : n % 2 ≠ 1 := fun e => by rw [e] at h1; simp at h1
               rw [if_neg this]
theorem Tm.get_mk (n : Nat) (tr : Tr V) (i : Nat) : Tm.get ⟨n, tr⟩ i = tr.get i := rfl
theorem Tm.set_mk (n : Nat) (tr : Tr V) (i : Nat) (v : V) : Tm.set ⟨n, tr⟩ i v = if i < n then ⟨n, Tr.put (i + 1) tr i v⟩ else ⟨n, tr⟩ := by
  unfold Tm.set
  by_cases h : i < n
  · simp [blt_true h, h, Tr.set]
  · simp [blt_false h, h]
theorem Tm.put_some (t : Tm) (i : Nat) (v : V) : Tm.put t (some i) v = t.set i v := rfl
theorem Tm.put_none (t : Tm) (v : V) : Tm.put t none v = t := rfl

section
variable (tm : Tm) (h : Heap)
theorem evV_tmp (t : Tmp) : evV tm (.tmp t) = tm.get t := rfl
theorem evV_func (f : FuncId) : evV tm (.func f) = some (.func f [] []) := rfl
theorem evV_int (k : IntKind) (n : Int) : evV tm (.const (.int k n)) = some (.int k n) := rfl
theorem evV_bool (b : Bool) : evV tm (.const (.bool b)) = some (.bool b) := rfl
theorem evV_str (s : ByteArray) : evV tm (.const (.string s)) = some (.str s) := rfl
theorem evV_nilp : evV tm (.const (.pointer none)) = some (.ptr none) := rfl
theorem evV_nils (n c : Nat) : evV tm (.const (.slice none n c)) = some (.slice none n c true) := rfl
theorem evV_nilm : evV tm (.const (.map none)) = some (.map none) := rfl
theorem evV_nilf : evV tm (.const .nilFunc) = some .nilFunc := rfl
theorem evV_nili : evV tm (.const .nilIface) = some .nilIface := rfl
end

end Go.Vm
