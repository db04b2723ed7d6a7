/- Equations that hold under a bound, for walks that leave the bounds to omega. -/
import Derived.Test.YtmkdbninmimndaaVmML
import Derived.IntWalk
set_option linter.unusedVariables false
set_option linter.unusedSimpArgs false
namespace Go.Vm

theorem w_blt_t {a b : Nat} (h : a < b) : Nat.blt a b = true := blt_true h
theorem w_blt_f {a b : Nat} (h : b ≤ a) : Nat.blt a b = false := blt_false (by omega)
theorem w_ble_t {a b : Nat} (h : a ≤ b) : Nat.ble a b = true := by rw [Nat.ble_eq]; exact h
theorem w_ble_f {a b : Nat} (h : b < a) : Nat.ble a b = false := by
  cases hb : Nat.ble a b with
  | false => rfl
  | true => rw [Nat.ble_eq] at hb; omega
theorem w_beq_t {a b : Nat} (h : a = b) : Nat.beq a b = true := by subst h; simp
theorem w_beq_f {a b : Nat} (h : a ≠ b) : Nat.beq a b = false := by
  cases hb : Nat.beq a b with
  | false => rfl
  | true => exact absurd (Nat.eq_of_beq_eq_true hb) h
theorem w_ilt_t {a b : Int} (h : a < b) : decide (a < b) = true := decide_eq_true h
theorem w_ilt_f {a b : Int} (h : b ≤ a) : decide (a < b) = false := decide_eq_false (by omega)
theorem w_ile_t {a b : Int} (h : a ≤ b) : decide (a ≤ b) = true := decide_eq_true h
theorem w_ile_f {a b : Int} (h : b < a) : decide (a ≤ b) = false := decide_eq_false (by omega)
theorem w_ieq_t {a b : Int} (h : a = b) : (a == b) = true := by simpa using h
theorem w_ieq_f {a b : Int} (h : a ≠ b) : (a == b) = false := by simpa using h
theorem w_idx {α : Type} {i n : Int} (h0 : 0 ≤ i) (h1 : i < n) (v : α) (k : α → Prop) : onO (if 0 ≤ i ∧ i < n then some v else none) k = k v := by rw [if_pos ⟨h0, h1⟩]; rfl
theorem w_ite {α : Type} {i n : Int} (h0 : 0 ≤ i) (h1 : i < n) (a b : α) : (if 0 ≤ i ∧ i < n then a else b) = a := if_pos ⟨h0, h1⟩
theorem w_push_eq {h : Heap} {b : Nat} (e : b = h.n) (o : O) : (h.push o).get b = some o := by rw [Heap.get_push, if_pos e]
theorem w_push_ne {h : Heap} {b : Nat} (e : b ≠ h.n) (o : O) : (h.push o).get b = h.get b := by rw [Heap.get_push, if_neg e]
theorem w_set_eq {h : Heap} {b c : Nat} (hb : b < h.n) (e : c = b) (o : O) : (h.set b o).get c = some o := by rw [Heap.get_set h b c o hb, if_pos e]
theorem w_set_ne {h : Heap} {b c : Nat} (hb : b < h.n) (e : c ≠ b) (o : O) : (h.set b o).get c = h.get c := by rw [Heap.get_set h b c o hb, if_neg e]
theorem w_bset_eq {b : Blk} {i j : Nat} (e : j = i) (v : V) : (b.set i v).get j = v := by rw [Blk.get_set, if_pos e]
theorem w_bset_ne {b : Blk} {i j : Nat} (e : j ≠ i) (v : V) : (b.set i v).get j = b.get j := by rw [Blk.get_set, if_neg e]
theorem w_of_get {l : List V} {i : Nat} (h : i < l.length) : (Blk.of l).get i = l.getD i undefV := Blk.get_of l i h
theorem w_of_size (l : List V) : (Blk.of l).size = l.length := rfl
theorem w_rep_size (n : Nat) (l : List V) : (Blk.rep n l).size = n := rfl
theorem w_getD_zero (a : V) (l : List V) (d : V) : (a :: l).getD 0 d = a := rfl
theorem w_getD_succ (a : V) (l : List V) (i : Nat) (d : V) : (a :: l).getD (i + 1) d = l.getD i d := rfl
theorem w_gets_zero (b : Blk) (o : Nat) : b.gets o 0 = [] := rfl
theorem w_gets_succ (b : Blk) (o n : Nat) : b.gets o (n + 1) = b.get o :: b.gets (o + 1) n := rfl
theorem w_puts_nil (b : Blk) (o : Nat) : b.puts o [] = b := rfl
theorem w_puts_cons (b : Blk) (o : Nat) (v : V) (l : List V) : b.puts o (v :: l) = (b.set o v).puts (o + 1) l := rfl
theorem w_putA_one (b : Blk) (o : Nat) (v : V) : b.putA o [v] = b.set o v := rfl
theorem w_fill_nil (p : Nat → Option (Nat × Nat)) (c : List V) : fillV p c [] = some c := rfl
theorem w_fill_cons (p : Nat → Option (Nat × Nat)) (c : List V) (i : Nat) (v : V) (r : List (Nat × V)) : fillV p c ((i, v) :: r) = match p i with
    | none => none
    | some (off, size) => if v.cellsV.length = size ∧ off + size ≤ c.length then fillV p (putL c off v.cellsV) r else none := by
  cases h : p i with
  | none => simp [fillV, h]
  | some q => obtain ⟨a, b⟩ := q; simp [fillV, h]
theorem w_putL_nil (l : List V) (o : Nat) : putL l o [] = l := rfl
theorem w_putL_cons (l : List V) (o : Nat) (v : V) (r : List V) : putL l o (v :: r) = putL (l.set o v) (o + 1) r := rfl
theorem w_i64 {x : Int} (h1 : -9223372036854775808 ≤ x) (h2 : x ≤ 9223372036854775807) : IntKind.i64.wrap x = x := IntWalk.i64_in x (by omega)
theorem w_one_int (k : IntKind) (n : Int) : (V.int k n).cellsV = [.int k n] := rfl
theorem w_one_ptr (a : Option (Nat × Nat)) : (V.ptr a).cellsV = [.ptr a] := rfl
theorem w_one_bool (b : Bool) : (V.bool b).cellsV = [.bool b] := rfl
theorem w_one_str (b : ByteArray) : (V.str b).cellsV = [.str b] := rfl
theorem w_one_slice (a : Option (Nat × Nat)) (n c : Nat) (ex : Bool) : (V.slice a n c ex).cellsV = [.slice a n c ex] := rfl
theorem w_one_map (a : Option Nat) : (V.map a).cellsV = [.map a] := rfl
theorem w_one_func (f : FuncId) (x y : List V) : (V.func f x y).cellsV = [.func f x y] := rfl
theorem w_one_yield (l : Nat) : (V.yield l).cellsV = [.yield l] := rfl
theorem w_agg (c : List V) : (V.agg c).cellsV = c := rfl
attribute [go_sem] w_of_size w_rep_size Blk.size_set Blk.size_puts Blk.ro_of Blk.ro_rep Blk.ro_set Blk.ro_puts Blk.ro_putA Blk.size_putA w_putA_one w_getD_zero w_getD_succ w_gets_zero w_gets_succ w_puts_nil w_puts_cons w_fill_nil w_fill_cons w_putL_nil w_putL_cons w_one_int w_one_ptr w_one_bool w_one_str w_one_slice w_one_map w_one_func w_one_yield w_agg List.set_cons_zero List.set_cons_succ Int.toNat_natCast Heap.n_push Heap.n_set
end Go.Vm
