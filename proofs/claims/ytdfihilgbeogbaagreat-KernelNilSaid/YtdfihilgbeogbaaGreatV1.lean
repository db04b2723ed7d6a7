/- The virtual machine's data: tries, virtual values, blocks, heaps, temporaries, renamings. No program in sight. -/
import Derived.Calls
import Derived.Laws.Rows
import Derived.Laws.CopyRow
import Derived.Laws.Cells
import Derived.Laws.Entries
import Derived.Laws.Tables
import Derived.Laws.World
import Derived.Laws.StructEq
import Derived.Laws.MakeOwn
import Derived.Laws.AppendOwn
import Derived.ChangeKeysEq
import Derived.RangeFuncRecord
set_option linter.unusedVariables false
set_option linter.unusedSimpArgs false
set_option linter.unusedSimpArgs false
namespace Go.Vm

inductive Tr (α : Type) where
  | nil
  | node (l : Tr α) (v : Option α) (r : Tr α)

def Tr.get {α : Type} : Tr α → Nat → Option α
  | .nil, _ => none
  | .node l v r, n => match Nat.beq n 0 with
    | true => v
    | false => match Nat.beq (n % 2) 1 with
      | true => l.get (n / 2)
      | false => r.get (n / 2 - 1)

def Tr.put {α : Type} : Nat → Tr α → Nat → α → Tr α
  | 0, t, _, _ => t
  | f + 1, .nil, n, x => match Nat.beq n 0 with
    | true => .node .nil (some x) .nil
    | false => match Nat.beq (n % 2) 1 with
      | true => .node (Tr.put f .nil (n / 2) x) none .nil
      | false => .node .nil none (Tr.put f .nil (n / 2 - 1) x)
  | f + 1, .node l v r, n, x => match Nat.beq n 0 with
    | true => .node l (some x) r
    | false => match Nat.beq (n % 2) 1 with
      | true => .node (Tr.put f l (n / 2) x) v r
      | false => .node l v (Tr.put f r (n / 2 - 1) x)

def Tr.set {α : Type} (t : Tr α) (n : Nat) (x : α) : Tr α := Tr.put (n + 1) t n x

theorem Tr.get_nil {α : Type} (n : Nat) : (Tr.nil : Tr α).get n = none := by cases n <;> rfl

theorem Tr.get_put {α : Type} (x : α) : ∀ (f : Nat) (t : Tr α) (n m : Nat), n < f → (Tr.put f t n x).get m = if m = n then some x else t.get m := by
  intro f
  induction f with
  | zero => intro t n m h; omega
  | succ f ih =>
    intro t n m h
    have key : ∀ (l : Tr α) (v : Option α) (r : Tr α), (match Nat.beq n 0 with
        | true => Tr.node l (some x) r
        | false => match Nat.beq (n % 2) 1 with
          | true => .node (Tr.put f l (n / 2) x) v r
          | false => .node l v (Tr.put f r (n / 2 - 1) x)).get m = if m = n then some x else (Tr.node l v r).get m := by
      intro l v r
      cases h0 : Nat.beq n 0 with
      | true =>
        have e0 : n = 0 := Nat.eq_of_beq_eq_true h0
        subst e0
        cases hm : Nat.beq m 0 with
        | true => have : m = 0 := Nat.eq_of_beq_eq_true hm; subst this; simp [Tr.get]
        | false => have : m ≠ 0 := fun e => by subst e; simp at hm
                   simp [Tr.get, hm, this]
      | false =>
        have e0 : n ≠ 0 := fun e => by subst e; simp at h0
        cases h1 : Nat.beq (n % 2) 1 with
        | true =>
          have e1 : n % 2 = 1 := Nat.eq_of_beq_eq_true h1
          simp only [Tr.get]
          cases hm : Nat.beq m 0 with
          | true => have : m = 0 := Nat.eq_of_beq_eq_true hm; subst this; simp [Ne.symm e0]
          | false =>
            have em : m ≠ 0 := fun e => by subst e; simp at hm
            cases hm1 : Nat.beq (m % 2) 1 with
            | true =>
              have e2 : m % 2 = 1 := Nat.eq_of_beq_eq_true hm1
              simp only [ih _ _ _ (show n / 2 < f by omega)]
              by_cases hh : m = n
              · simp [hh]
              · rw [if_neg hh, if_neg (by omega)]
            | false =>
              have e2 : m % 2 ≠ 1 := fun e => by rw [e] at hm1; simp at hm1
              rw [if_neg (by omega)]
        | false =>
          have e1 : n % 2 ≠ 1 := fun e => by rw [e] at h1; simp at h1
          simp only [Tr.get]
          cases hm : Nat.beq m 0 with
          | true => have : m = 0 := Nat.eq_of_beq_eq_true hm; subst this; simp [Ne.symm e0]
          | false =>
            have em : m ≠ 0 := fun e => by subst e; simp at hm
            cases hm1 : Nat.beq (m % 2) 1 with
            | true =>
              have e2 : m % 2 = 1 := Nat.eq_of_beq_eq_true hm1
              rw [if_neg (by omega)]
            | false =>
              have e2 : m % 2 ≠ 1 := fun e => by rw [e] at hm1; simp at hm1
              simp only [ih _ _ _ (show n / 2 - 1 < f by omega)]
              by_cases hh : m = n
              · simp [hh]
              · rw [if_neg hh, if_neg (by omega)]
    cases t with
    | nil =>
      have := key .nil none .nil
      have hn : (Tr.node Tr.nil none Tr.nil : Tr α).get m = (Tr.nil : Tr α).get m := by
        simp only [Tr.get, Tr.get_nil]; (repeat' split) <;> rfl
      rw [hn] at this
      exact this
    | node l v r => exact key l v r

theorem Tr.get_set {α : Type} (t : Tr α) (n m : Nat) (x : α) : (t.set n x).get m = if m = n then some x else t.get m :=
  Tr.get_put x (n + 1) t n m (Nat.lt_succ_self n)

inductive V where
  | bool (b : Bool)
  | int (k : IntKind) (n : Int)
  | str (s : ByteArray)
  | ptr (a : Option (Nat × Nat))
  | slice (a : Option (Nat × Nat)) (len cap : Nat) (ex : Bool)
  | map (r : Option Nat)
  | func (f : FuncId) (first captured : List V)
  | nilFunc
  | yield (l : Nat)
  | iface (t : TypeId) (v : V)
  | nilIface
  | agg (c : List V)
  | tuple (vs : List V)
  | raw (x : Value)
  | esl (a : Addr)
  | eop (a : Nat × Nat) (l : Nat)
  deriving Inhabited

def undefV : V := .tuple []

structure Loc where
  blk : Nat
  sh : Nat
  slk : Nat
abbrev Ren := Nat → Option Loc
def Ren.b (σ : Ren) (x : Nat) : Nat := match σ x with | some l => l.blk | none => 0
def Ren.s (σ : Ren) (x : Nat) : Nat := match σ x with | some l => l.sh | none => 0
def Ren.k (σ : Ren) (x : Nat) : Nat := match σ x with | some l => l.slk | none => 0
def Ren.is (σ : Ren) (x : Nat) : Prop := ∃ l, σ x = some l
theorem Ren.b_eq {σ : Ren} {x : Nat} {l : Loc} (h : σ x = some l) : σ.b x = l.blk := by simp [Ren.b, h]
theorem Ren.s_eq {σ : Ren} {x : Nat} {l : Loc} (h : σ x = some l) : σ.s x = l.sh := by simp [Ren.s, h]
theorem Ren.k_eq {σ : Ren} {x : Nat} {l : Loc} (h : σ x = some l) : σ.k x = l.slk := by simp [Ren.k, h]
def Ren.le (σ τ : Ren) : Prop := ∀ b l, σ b = some l → τ b = some l
theorem Ren.le_refl (σ : Ren) : σ.le σ := fun _ _ h => h
theorem Ren.le_trans {σ τ υ : Ren} (h : σ.le τ) (h' : τ.le υ) : σ.le υ := fun b l e => h' b l (h b l e)

def reA (σ : Ren) (a : Nat × Nat) : Addr := ⟨σ.b a.1, σ.s a.1 + a.2, none⟩

mutual
def V.re (σ : Ren) : V → Value
  | .bool b => .bool b
  | .int k n => .int k n
  | .str s => .string s
  | .ptr a => .pointer (a.map (reA σ))
  | .slice none n c _ => .slice none n c
  | .slice (some a) n c ex => .slice (some (reA σ a)) n (if ex then c else c + σ.k a.1)
  | .map r => .map (r.map σ.b)
  | .func f xs ys => .func (.func f) (V.reL σ xs).toArray (V.reL σ ys).toArray
  | .nilFunc => .nilFunc
  | .yield l => .func (.yield (σ.b l)) #[] #[]
  | .iface t v => .iface t (v.re σ)
  | .nilIface => .nilIface
  | .agg c => .agg (V.reL σ c).toArray
  | .tuple vs => .tuple (V.reL σ vs).toArray
  | .raw x => x
  | .esl a => .slice (some a) 0 0
  | .eop a l => .slice (some (if σ.k a.1 = 0 then reA σ a else reA σ (a.1, a.2 + l))) 0 (σ.k a.1)
def V.reL (σ : Ren) : List V → List Value
  | [] => []
  | v :: r => v.re σ :: V.reL σ r
end

theorem V.reL_eq (σ : Ren) (l : List V) : V.reL σ l = l.map (V.re σ) := by
  induction l with
  | nil => rfl
  | cons v r ih => simp [V.reL, ih]

mutual
def V.on (σ : Ren) : V → Prop
  | .ptr (some a) => σ.is a.1
  | .slice (some a) _ _ _ => σ.is a.1
  | .eop a _ => σ.is a.1
  | .map (some r) => σ.is r
  | .func _ xs ys => V.onL σ xs ∧ V.onL σ ys
  | .yield l => σ.is l
  | .iface _ v => v.on σ
  | .agg c => V.onL σ c
  | .tuple vs => V.onL σ vs
  | _ => True
def V.onL (σ : Ren) : List V → Prop
  | [] => True
  | v :: r => v.on σ ∧ V.onL σ r
end

theorem V.onL_iff (σ : Ren) (l : List V) : V.onL σ l ↔ ∀ v ∈ l, v.on σ := by
  induction l with
  | nil => simp [V.onL]
  | cons v r ih => simp [V.onL, ih]

theorem Ren.is_le {σ τ : Ren} (h : σ.le τ) {b : Nat} (hb : σ.is b) : τ.is b := let ⟨l, e⟩ := hb; ⟨l, h b l e⟩
theorem Ren.b_le {σ τ : Ren} (h : σ.le τ) {b : Nat} (hb : σ.is b) : τ.b b = σ.b b := by obtain ⟨l, e⟩ := hb; rw [Ren.b_eq e, Ren.b_eq (h b l e)]
theorem Ren.s_le {σ τ : Ren} (h : σ.le τ) {b : Nat} (hb : σ.is b) : τ.s b = σ.s b := by obtain ⟨l, e⟩ := hb; rw [Ren.s_eq e, Ren.s_eq (h b l e)]
theorem Ren.k_le {σ τ : Ren} (h : σ.le τ) {b : Nat} (hb : σ.is b) : τ.k b = σ.k b := by obtain ⟨l, e⟩ := hb; rw [Ren.k_eq e, Ren.k_eq (h b l e)]

mutual
theorem V.on_le {σ τ : Ren} (h : σ.le τ) : ∀ (v : V), v.on σ → v.on τ ∧ v.re τ = v.re σ
  | .ptr (some a), hv => ⟨Ren.is_le h hv, by simp [V.re, reA, Ren.b_le h hv, Ren.s_le h hv]⟩
  | .slice (some a) _ _ ex, hv => ⟨Ren.is_le h hv, by simp [V.re, reA, Ren.b_le h hv, Ren.s_le h hv, Ren.k_le h hv]⟩
  | .map (some r), hv => ⟨Ren.is_le h hv, by simp [V.re, Ren.b_le h hv]⟩
  | .func _ xs ys, hv => ⟨⟨(V.onL_le h xs hv.1).1, (V.onL_le h ys hv.2).1⟩, by simp [V.re, (V.onL_le h xs hv.1).2, (V.onL_le h ys hv.2).2]⟩
  | .yield l, hv => ⟨Ren.is_le h hv, by simp [V.re, Ren.b_le h hv]⟩
  | .iface _ v, hv => ⟨(V.on_le h v hv).1, by simp [V.re, (V.on_le h v hv).2]⟩
  | .agg c, hv => ⟨(V.onL_le h c hv).1, by simp [V.re, (V.onL_le h c hv).2]⟩
  | .tuple vs, hv => ⟨(V.onL_le h vs hv).1, by simp [V.re, (V.onL_le h vs hv).2]⟩
  | .bool _, _ => ⟨trivial, rfl⟩
  | .int _ _, _ => ⟨trivial, rfl⟩
  | .str _, _ => ⟨trivial, rfl⟩
  | .ptr none, _ => ⟨trivial, rfl⟩
  | .slice none _ _ _, _ => ⟨trivial, rfl⟩
  | .map none, _ => ⟨trivial, rfl⟩
  | .nilFunc, _ => ⟨trivial, rfl⟩
  | .nilIface, _ => ⟨trivial, rfl⟩
  | .raw _, _ => ⟨trivial, rfl⟩
  | .esl _, _ => ⟨trivial, rfl⟩
  | .eop a l, hv => ⟨Ren.is_le h hv, by simp [V.re, reA, Ren.b_le h hv, Ren.s_le h hv, Ren.k_le h hv]⟩
theorem V.onL_le {σ τ : Ren} (h : σ.le τ) : ∀ (l : List V), V.onL σ l → V.onL τ l ∧ V.reL τ l = V.reL σ l
  | [], _ => ⟨trivial, rfl⟩
  | v :: r, hv => ⟨⟨(V.on_le h v hv.1).1, (V.onL_le h r hv.2).1⟩, by simp [V.reL, (V.on_le h v hv.1).2, (V.onL_le h r hv.2).2]⟩
end

def VRel (σ : Ren) (v : V) (x : Value) : Prop := v.on σ ∧ x = v.re σ
theorem VRel.le {σ τ : Ren} (h : σ.le τ) {v : V} {x : Value} (hv : VRel σ v x) : VRel τ v x := ⟨(V.on_le h v hv.1).1, by rw [hv.2, (V.on_le h v hv.1).2]⟩

structure Lay where
  o : Nat
  n : Nat
  l : List V
  tr : Tr V
structure Blk where
  size : Nat
  dflt : List V
  tr : Tr V
  ro : Bool := false
  over : List Lay := []

def layGet (dflt : List V) (tr : Tr V) (i : Nat) : List Lay → V
  | [] => match tr.get i with
    | some v => v
    | none => dflt.getD (i % dflt.length) undefV
  | y :: r => match y.tr.get i with
    | some v => v
    | none => match Nat.ble y.o i with
      | true => match Nat.blt i (y.o + y.n) with
        | true => y.l.getD (i - y.o) undefV
        | false => layGet dflt tr i r
      | false => layGet dflt tr i r
def Blk.get (b : Blk) (i : Nat) : V := layGet b.dflt b.tr i b.over
def Blk.set (b : Blk) (i : Nat) (v : V) : Blk := match b.over with
  | [] => { b with tr := b.tr.set i v }
  | y :: r => { b with over := ⟨y.o, y.n, y.l, y.tr.set i v⟩ :: r }

theorem Blk.get_set (b : Blk) (i j : Nat) (v : V) : (b.set i v).get j = if j = i then v else b.get j := by
  obtain ⟨size, dflt, tr, ro, over⟩ := b
  cases over with
  | nil =>
    simp only [Blk.get, Blk.set, layGet, Tr.get_set]
    by_cases h : j = i <;> simp [h]
  | cons y r =>
    simp only [Blk.get, Blk.set, layGet, Tr.get_set]
    by_cases h : j = i <;> simp [h]
theorem Blk.size_set (b : Blk) (i : Nat) (v : V) : (b.set i v).size = b.size := by unfold Blk.set; split <;> rfl
theorem Blk.ro_set (b : Blk) (i : Nat) (v : V) : (b.set i v).ro = b.ro := by unfold Blk.set; split <;> rfl

def Blk.puts (b : Blk) (o : Nat) : List V → Blk
  | [] => b
  | v :: r => (b.set o v).puts (o + 1) r
theorem Blk.size_puts (l : List V) : ∀ (b : Blk) (o : Nat), (b.puts o l).size = b.size := by
  induction l with
  | nil => intro b o; rfl
  | cons v r ih => intro b o; simp [Blk.puts, ih, Blk.size_set]
theorem Blk.ro_puts (l : List V) : ∀ (b : Blk) (o : Nat), (b.puts o l).ro = b.ro := by
  induction l with
  | nil => intro b o; rfl
  | cons v r ih => intro b o; simp [Blk.puts, ih, Blk.ro_set]
theorem Blk.get_puts (l : List V) : ∀ (b : Blk) (o j : Nat), (b.puts o l).get j = if o ≤ j ∧ j < o + l.length then l.getD (j - o) undefV else b.get j := by
  induction l with
  | nil => intro b o j; simp [Blk.puts]; omega
  | cons v r ih =>
    intro b o j
    simp only [Blk.puts, ih, Blk.get_set, List.length_cons]
    by_cases h1 : o + 1 ≤ j ∧ j < o + 1 + r.length
    · rw [if_pos h1, if_pos (by omega), show j - o = (j - (o + 1)) + 1 by omega]; rfl
    · rw [if_neg h1]
      by_cases h2 : j = o
      · subst h2; simp
      · rw [if_neg h2, if_neg (by omega)]

def Blk.gets (b : Blk) (o : Nat) : Nat → List V
  | 0 => []
  | n + 1 => b.get o :: b.gets (o + 1) n
theorem Blk.length_gets (b : Blk) (n : Nat) : ∀ o, (b.gets o n).length = n := by
  induction n with
  | zero => intro o; rfl
  | succ n ih => intro o; simp [Blk.gets, ih]
theorem Blk.gets_get (b : Blk) (n : Nat) : ∀ (o j : Nat), j < n → (b.gets o n)[j]? = some (b.get (o + j)) := by
  induction n with
  | zero => intro o j h; omega
  | succ n ih =>
    intro o j h
    cases j with
    | zero => simp [Blk.gets]
    | succ j => simp [Blk.gets, ih (o + 1) j (by omega), show o + 1 + j = o + (j + 1) by omega]

def Blk.putA (b : Blk) (o : Nat) (l : List V) : Blk := match Nat.ble 16 l.length with
  | true => match Nat.beq o 0, Nat.beq l.length b.size with
    | true, true => ⟨b.size, l, .nil, b.ro, []⟩
    | _, _ => ⟨b.size, b.dflt, b.tr, b.ro, ⟨o, l.length, l, .nil⟩ :: b.over⟩
  | false => b.puts o l
theorem Blk.size_putA (b : Blk) (o : Nat) (l : List V) : (b.putA o l).size = b.size := by
  unfold Blk.putA
  split
  · split <;> rfl
  · exact Blk.size_puts l b o
theorem Blk.ro_putA (b : Blk) (o : Nat) (l : List V) : (b.putA o l).ro = b.ro := by
  unfold Blk.putA
  split
  · split <;> rfl
  · exact Blk.ro_puts l b o
theorem Blk.get_putA (l : List V) (b : Blk) (o j : Nat) (hj : j < b.size) : (b.putA o l).get j = if o ≤ j ∧ j < o + l.length then l.getD (j - o) undefV else b.get j := by
  unfold Blk.putA
  split
  · split
    · rename_i h1 h2
      have h1 := Nat.eq_of_beq_eq_true h1
      have h2 := Nat.eq_of_beq_eq_true h2
      subst h1
      rw [if_pos (by omega)]
      simp only [Blk.get, layGet, Tr.get_nil]
      rw [Nat.mod_eq_of_lt (by omega), Nat.sub_zero]
    · simp only [Blk.get, layGet, Tr.get_nil]
      by_cases h1 : o ≤ j
      · have e1 : Nat.ble o j = true := Nat.ble_eq_true_of_le h1
        simp only [e1]
        by_cases h2 : j < o + l.length
        · have e2 : Nat.blt j (o + l.length) = true := by simp [Nat.blt_eq, h2]
          simp only [e2]
          rw [if_pos ⟨h1, h2⟩]
        · have e2 : Nat.blt j (o + l.length) = false := by
            cases hb : Nat.blt j (o + l.length) with
            | true => exact absurd (Nat.blt_eq.mp hb) h2
            | false => rfl
          simp only [e2]
          rw [if_neg fun h => h2 h.2]
      · have e1 : Nat.ble o j = false := by
          cases hb : Nat.ble o j with
          | true => exact absurd (Nat.le_of_ble_eq_true hb) h1
          | false => rfl
        simp only [e1]
        rw [if_neg fun h => h1 h.1]
  · exact Blk.get_puts l b o j
theorem Blk.putA_short {l : List V} (b : Blk) (o : Nat) (h : l.length < 16) : b.putA o l = b.puts o l := by
  unfold Blk.putA
  split
  · rename_i h1; have := Nat.le_of_ble_eq_true h1; omega
  · rfl
def Blk.of (l : List V) : Blk := { size := l.length, dflt := l, tr := .nil }
theorem Blk.get_of (l : List V) (i : Nat) (h : i < l.length) : (Blk.of l).get i = l.getD i undefV := by
  simp [Blk.get, layGet, Blk.of, Tr.get_nil, Nat.mod_eq_of_lt h]
def Blk.rep (n : Nat) (z : List V) : Blk := { size := n, dflt := z, tr := .nil }
theorem Blk.ro_of (l : List V) : (Blk.of l).ro = false := rfl
theorem Blk.ro_rep (n : Nat) (z : List V) : (Blk.rep n z).ro = false := rfl

end Go.Vm
set_option linter.unusedVariables false
set_option linter.unusedSimpArgs false
namespace Go.Vm

structure Tm where
  n : Nat
  tr : Tr V
def Tm.get (t : Tm) (i : Nat) : Option V := t.tr.get i
def Tm.set (t : Tm) (i : Nat) (v : V) : Tm := match Nat.blt i t.n with
  | true => { t with tr := t.tr.set i v }
  | false => t
theorem blt_true {a b : Nat} (h : a < b) : Nat.blt a b = true := by simp [Nat.blt_eq, h]
theorem blt_false {a b : Nat} (h : ¬ a < b) : Nat.blt a b = false := by
  cases hb : Nat.blt a b with
  | true => exact absurd (Nat.blt_eq.mp hb) h
  | false => rfl
theorem Tm.n_set (t : Tm) (i : Nat) (v : V) : (t.set i v).n = t.n := by unfold Tm.set; split <;> rfl
theorem Tm.get_set (t : Tm) (i j : Nat) (v : V) (h : i < t.n) : (t.set i v).get j = if j = i then some v else t.get j := by
  simp only [Tm.set, blt_true h, Tm.get, Tr.get_set]
theorem Tm.get_set_ne (t : Tm) (i j : Nat) (v : V) (hne : j ≠ i) : (t.set i v).get j = t.get j := by
  by_cases h : i < t.n
  · simp [Tm.get_set t i j v h, hne]
  · simp [Tm.set, blt_false h]

def Tm.put (t : Tm) (d : Option Tmp) (v : V) : Tm := match d with
  | some i => t.set i v
  | none => t

structure Loopv where
  state : LoopState
  pending : Option Code
  tmps : Tm
  params : List Tmp
  assign : Code
  body : Code
  defers : Nat

inductive O where
  | cells (c : Blk) (elem : TypeId)
  | map (es : List (V × V × Nat)) (clock : Nat)
  | iter (m : Option Nat) (since : Nat) (seen : List Nat) (stepped : Nat)
  | loop (l : Loopv)
  | deferred (isOpen : Bool)
  | dead

structure Heap where
  n : Nat
  tr : Tr O
def Heap.get (h : Heap) (b : Nat) : Option O := match Nat.blt b h.n with
  | true => h.tr.get b
  | false => none
def Heap.set (h : Heap) (b : Nat) (o : O) : Heap := { h with tr := h.tr.set b o }
def Heap.push (h : Heap) (o : O) : Heap := { n := h.n + 1, tr := h.tr.set h.n o }

theorem Heap.get_lt {h : Heap} {b : Nat} {o : O} (e : h.get b = some o) : b < h.n := by
  unfold Heap.get at e
  split at e
  · rename_i hb; exact Nat.blt_eq.mp hb
  · cases e
theorem Heap.get_ge {h : Heap} {b : Nat} (e : h.n ≤ b) : h.get b = none := by
  cases hg : h.get b with
  | none => rfl
  | some o => have := Heap.get_lt hg; omega
@[simp] theorem Heap.n_set (h : Heap) (b : Nat) (o : O) : (h.set b o).n = h.n := rfl
@[simp] theorem Heap.n_push (h : Heap) (o : O) : (h.push o).n = h.n + 1 := rfl
theorem Heap.get_set (h : Heap) (b c : Nat) (o : O) (hb : b < h.n) : (h.set b o).get c = if c = b then some o else h.get c := by
  unfold Heap.get
  by_cases hc : c < h.n
  · simp only [Heap.n_set, blt_true hc, Heap.set, Tr.get_set]
  · simp only [Heap.n_set, blt_false hc]
    rw [if_neg (by omega)]
theorem Heap.get_push (h : Heap) (c : Nat) (o : O) : (h.push o).get c = if c = h.n then some o else h.get c := by
  unfold Heap.get
  by_cases hc : c < h.n
  · rw [if_neg (by omega)]
    simp only [Heap.n_push, blt_true (show c < h.n + 1 by omega), blt_true hc, Heap.push, Tr.get_set]
    rw [if_neg (by omega)]
  · by_cases he : c = h.n
    · subst he
      simp [blt_true (Nat.lt_succ_self h.n), Heap.push, Tr.get_set]
    · simp only [Heap.n_push, blt_false (show ¬ c < h.n + 1 by omega), blt_false hc, if_neg he]

def O.isDead : O → Bool
  | .dead => true
  | _ => false

def TRel (σ : Ren) (t : Tm) (arr : Array Value) : Prop := arr.size = t.n ∧ ∀ i v, t.get i = some v → VRel σ v (arr.getD i undef)

theorem undefV_re (σ : Ren) : undefV.re σ = undef := by simp [undefV, undef, V.re, V.reL]
theorem undefV_on (σ : Ren) : undefV.on σ := trivial

theorem TRel.set {σ : Ren} {t : Tm} {arr : Array Value} (h : TRel σ t arr) (i : Nat) {v : V} {x : Value} (hv : VRel σ v x) : TRel σ (t.set i v) (arr.setIfInBounds i x) := by
  refine ⟨by simp [Tm.n_set, h.1], fun j u hu => ?_⟩
  by_cases hi : i < t.n
  · rw [Tm.get_set t i j v hi] at hu
    by_cases e : j = i
    · subst e
      simp at hu; subst hu
      simpa [Array.getD_eq_getD_getElem?, Array.getElem?_setIfInBounds, h.1, hi] using hv
    · simp only [if_neg e] at hu
      have := h.2 j u hu
      simpa [Array.getD_eq_getD_getElem?, Array.getElem?_setIfInBounds, Ne.symm e] using this
  · have e1 : t.set i v = t := by simp [Tm.set, blt_false hi]
    rw [e1] at hu
    rw [Array.setIfInBounds_eq_of_size_le (by have := h.1; omega)]
    exact h.2 j u hu
theorem TRel.put {σ : Ren} {t : Tm} {arr : Array Value} (h : TRel σ t arr) (d : Option Tmp) {v : V} {x : Value} (hv : VRel σ v x) (ds : List Deferred) : TRel σ (t.put d v) ((Act.put ⟨arr, ds⟩ d x).tmps) := by
  cases d with
  | none => exact h
  | some i => exact h.set i hv
theorem TRel.le {σ τ : Ren} {t : Tm} {arr : Array Value} (h : TRel σ t arr) (hl : σ.le τ) : TRel τ t arr :=
  ⟨h.1, fun i v hv => (h.2 i v hv).le hl⟩

structure LRel (σ : Ren) (l : Loopv) (l' : Loop) : Prop where
  state : l'.state = l.state
  pending : l'.pending = l.pending
  tmps : TRel σ l.tmps l'.tmps
  params : l'.params = l.params.toArray
  assign : l'.assign = l.assign
  body : l'.body = l.body
  defers : σ.is l.defers ∧ l'.defers = σ.b l.defers

def reE (σ : Ren) (e : V × V × Nat) : MapEntry := { key := e.1.re σ, val := e.2.1.re σ, born := e.2.2 }
def onE (σ : Ren) (e : V × V × Nat) : Prop := e.1.on σ ∧ e.2.1.on σ
theorem reE_le {σ τ : Ren} (hl : σ.le τ) {e : V × V × Nat} (he : onE σ e) : onE τ e ∧ reE τ e = reE σ e :=
  ⟨⟨(V.on_le hl _ he.1).1, (V.on_le hl _ he.2).1⟩, by simp [reE, (V.on_le hl _ he.1).2, (V.on_le hl _ he.2).2]⟩
def FzOk (n : Nat) (fz : Nat × Nat) : Prop := fz = (0, 0) ∨ n ≤ fz.1
def BRel (P : Program) (σ : Ren) (l : Loc) (o : O) (o' : Option Obj) : Prop := match o with
  | .cells c elem => ∃ arr : Array Value, (∃ fz, (c.ro = false → FzOk arr.size fz) ∧ o' = some (.cells arr elem fz)) ∧ arr.size = l.sh + c.size + l.slk * P.cellsOf elem ∧ ∀ i, i < c.size → (c.get i).on σ ∧ arr[l.sh + i]? = some ((c.get i).re σ)
  | .map es clock => o' = some (.map (es.map (reE σ)).toArray clock) ∧ ∀ e ∈ es, onE σ e
  | .iter m since seen stepped => l.sh = 0 ∧ (∀ r, m = some r → σ.is r) ∧ o' = some (.mapIter (m.map σ.b) since seen.toArray stepped)
  | .loop lv => ∃ l', o' = some (.loop l') ∧ LRel σ lv l'
  | .deferred op => o' = some (.deferred (if op then some [] else none))
  | .dead => True

theorem BRel.le {P : Program} {σ τ : Ren} (hl : σ.le τ) {l : Loc} {o : O} {o' : Option Obj} (h : BRel P σ l o o') : BRel P τ l o o' := by
  cases o with
  | cells c e =>
    obtain ⟨arr, h1, h2, h3⟩ := h
    exact ⟨arr, h1, h2, fun i hi => ⟨(V.on_le hl _ (h3 i hi).1).1, by rw [(h3 i hi).2, (V.on_le hl _ (h3 i hi).1).2]⟩⟩
  | map es clock =>
    obtain ⟨h1, h3⟩ := h
    refine ⟨?_, fun e he => (reE_le hl (h3 e he)).1⟩
    have : es.map (reE τ) = es.map (reE σ) := List.map_congr_left fun e he => (reE_le hl (h3 e he)).2
    rw [this]; exact h1
  | iter m since seen stepped =>
    obtain ⟨h0, h1, h2⟩ := h
    refine ⟨h0, fun r hr => Ren.is_le hl (h1 r hr), ?_⟩
    cases m with
    | none => exact h2
    | some r => rw [h2]; simp [Ren.b_le hl (h1 r rfl)]
  | loop lv =>
    obtain ⟨l', h1, h2⟩ := h
    exact ⟨l', h1, { h2 with tmps := h2.tmps.le hl, defers := ⟨Ren.is_le hl h2.defers.1, by rw [h2.defers.2, Ren.b_le hl h2.defers.1]⟩ }⟩
  | deferred op => exact h
  | dead => trivial
theorem BRel.some {P : Program} {σ : Ren} {l : Loc} {o : O} {o' : Option Obj} (h : BRel P σ l o o') (hd : o.isDead = false) : ∃ x, o' = some x := by
  cases o with
  | cells c e => obtain ⟨arr, ⟨_, _, h1⟩, _⟩ := h; exact ⟨_, h1⟩
  | map es clock => exact ⟨_, h.1⟩
  | iter m since seen stepped => exact ⟨_, h.2.2⟩
  | loop lv => obtain ⟨l', h1, _⟩ := h; exact ⟨_, h1⟩
  | deferred op => exact ⟨_, h⟩
  | dead => cases hd

abbrev HF := Nat → Option O
def liveIn (H : HF) (b : Nat) : Prop := ∃ o, H b = some o ∧ o.isDead = false
structure Inv (P : Program) (H : HF) (σ : Ren) (w : World) : Prop where
  rel : ∀ b o, H b = some o → o.isDead = false → ∃ l, σ b = some l ∧ BRel P σ l o w.heap[l.blk]?
  inj : ∀ a b la lb, liveIn H a → liveIn H b → σ a = some la → σ b = some lb → la.blk = lb.blk → a = b
  fin : ∃ N, ∀ b, N ≤ b → σ b = none ∧ H b = none

theorem Inv.lt {P : Program} {H : HF} {σ : Ren} {w : World} (h : Inv P H σ w) {b : Nat} {l : Loc} (hb : liveIn H b) (hl : σ b = some l) : l.blk < w.heap.size := by
  obtain ⟨o, ho, hd⟩ := hb
  obtain ⟨l', hl', hr⟩ := h.rel b o ho hd
  rw [hl] at hl'; cases hl'
  obtain ⟨x, hx⟩ := hr.some hd
  exact (Array.getElem?_eq_some_iff.1 hx).1
theorem Inv.heap {P : Program} {H : HF} {σ : Ren} {w w' : World} (h : Inv P H σ w) (e : w'.heap = w.heap) : Inv P H σ w' :=
  ⟨fun b o hb hd => by rw [e]; exact h.rel b o hb hd, h.inj, h.fin⟩

structure Goes (P : Program) (N W : Nat → Prop) (H H' : HF) (σ σ' : Ren) (w w' : World) : Prop where
  le : σ.le σ'
  dom : ∀ b l, σ' b = some l → σ b = some l ∨ N b
  inv : Inv P H' σ' w'
  virt : ∀ b, ¬ W b → ¬ N b → H' b = H b
  dead : ∀ b, ¬ N b → liveIn H' b → liveIn H b
  fresh : ∀ b l, N b → liveIn H' b → σ' b = some l → w.heap.size ≤ l.blk ∨ ∃ a la, liveIn H a ∧ W a ∧ ¬ N a ∧ σ a = some la ∧ la.blk = l.blk
  real : ∀ k, k < w.heap.size → (∀ b l, liveIn H b → σ b = some l → l.blk = k → ¬ W b) → w'.heap[k]? = w.heap[k]?
  size : w.heap.size ≤ w'.heap.size
  os : w'.os = w.os
  tape : w'.tape = w.tape
  output : w'.output = w.output

theorem Goes.refl {P : Program} {H : HF} {σ : Ren} {w : World} (hi : Inv P H σ w) {N W : Nat → Prop} (hN : ∀ b, ¬ N b) : Goes P N W H H σ σ w w :=
  ⟨Ren.le_refl _, fun _ _ h => .inl h, hi, fun _ _ _ => rfl, fun _ _ h => h, fun b _ h => absurd h (hN b), fun _ _ _ => rfl, Nat.le_refl _, rfl, rfl, rfl⟩

theorem Goes.heap {P : Program} {N W : Nat → Prop} {H H' : HF} {σ σ' : Ren} {w w' w'' : World} (g : Goes P N W H H' σ σ' w w') (e1 : w''.heap = w'.heap) (e2 : w''.os = w'.os) (e3 : w''.tape = w'.tape) (e4 : w''.output = w'.output) : Goes P N W H H' σ σ' w w'' :=
  { g with inv := g.inv.heap e1, real := fun k hk h => by rw [e1]; exact g.real k hk h, size := by rw [e1]; exact g.size, os := e2.trans g.os, tape := e3.trans g.tape, output := e4.trans g.output }

theorem Goes.trans {P : Program} {N₁ W₁ N₂ W₂ N W : Nat → Prop} {H H₁ H₂ : HF} {σ σ₁ σ₂ : Ren} {w w₁ w₂ : World} (g₁ : Goes P N₁ W₁ H H₁ σ σ₁ w w₁) (g₂ : Goes P N₂ W₂ H₁ H₂ σ₁ σ₂ w₁ w₂)
    (hN : ∀ b, N b ↔ N₁ b ∨ N₂ b) (h1 : ∀ b, W₁ b → W b ∨ N b) (h2 : ∀ b, W₂ b → W b ∨ N b) (hNf : ∀ b, N b → ¬ liveIn H b) : Goes P N W H H₂ σ σ₂ w w₂ := by
  have old : ∀ b l, N₁ b → liveIn H₁ b → σ₁ b = some l → w.heap.size ≤ l.blk ∨ ∃ a la, liveIn H a ∧ W a ∧ ¬ N a ∧ σ a = some la ∧ la.blk = l.blk := by
    intro b l hb hl hs
    rcases g₁.fresh b l hb hl hs with h | ⟨a, la, ha, hw, hn, hs', he⟩
    · exact .inl h
    · have hna : ¬ N a := fun h => hNf a h ha
      exact .inr ⟨a, la, ha, (h1 a hw).resolve_right hna, hna, hs', he⟩
  refine ⟨Ren.le_trans g₁.le g₂.le, ?_, g₂.inv, ?_, ?_, ?_, ?_, Nat.le_trans g₁.size g₂.size, g₂.os.trans g₁.os, g₂.tape.trans g₁.tape, g₂.output.trans g₁.output⟩
  · intro b l h
    rcases g₂.dom b l h with h | h
    · exact (g₁.dom b l h).imp id fun h => (hN b).2 (.inl h)
    · exact .inr ((hN b).2 (.inr h))
  · intro b hw hn
    rw [g₂.virt b (fun h => (h2 b h).elim hw hn) (fun h => hn ((hN b).2 (.inr h))), g₁.virt b (fun h => (h1 b h).elim hw hn) (fun h => hn ((hN b).2 (.inl h)))]
  · intro b hn hl
    exact g₁.dead b (fun h => hn ((hN b).2 (.inl h))) (g₂.dead b (fun h => hn ((hN b).2 (.inr h))) hl)
  · intro b l hb hl hs
    by_cases hb2 : N₂ b
    · rcases g₂.fresh b l hb2 hl hs with h | ⟨a, la, ha, hw, hn, hs', he⟩
      · exact .inl (Nat.le_trans g₁.size h)
      · rw [← he]
        by_cases hna : N₁ a
        · exact old a la hna ha hs'
        · have hha := g₁.dead a hna ha
          have hNa : ¬ N a := fun h => hNf a h hha
          rcases g₁.dom a la hs' with hs0 | hs0
          · exact .inr ⟨a, la, hha, (h2 a hw).resolve_right hNa, hNa, hs0, rfl⟩
          · exact absurd hs0 hna
    · have hb1 : N₁ b := ((hN b).1 hb).resolve_right hb2
      have hl1 := g₂.dead b hb2 hl
      rcases g₂.dom b l hs with hs1 | hs1
      · exact old b l hb1 hl1 hs1
      · exact absurd hs1 hb2
  · intro k hk hne
    have hne1 : ∀ b l, liveIn H b → σ b = some l → l.blk = k → ¬ W₁ b := fun b l hb hs he hw => (h1 b hw).elim (hne b l hb hs he) (fun h => hNf b h hb)
    rw [← g₁.real k hk hne1]
    refine g₂.real k (Nat.lt_of_lt_of_le hk g₁.size) fun b l hb hs he hw => ?_
    by_cases hb1 : N₁ b
    · rcases g₁.fresh b l hb1 hb hs with h | ⟨a, la, ha, hwa, hn, hs', he'⟩
      · omega
      · exact hne1 a la ha hs' (he'.trans he) hwa
    · have hb0 := g₁.dead b hb1 hb
      rcases g₁.dom b l hs with hs0 | hs0
      · exact (h2 b hw).elim (hne b l hb0 hs0 he) (fun h => hNf b h hb0)
      · exact absurd hs0 hb1

theorem Goes.more {P : Program} {N W W' : Nat → Prop} {H H' : HF} {σ σ' : Ren} {w w' : World} (g : Goes P N W H H' σ σ' w w') (hm : ∀ b, W b → W' b) : Goes P N W' H H' σ σ' w w' :=
  { g with
    virt := fun b hw hn => g.virt b (fun h => hw (hm b h)) hn
    fresh := fun b l hb hl hs => (g.fresh b l hb hl hs).imp id fun ⟨a, la, h1, h2, h3⟩ => ⟨a, la, h1, hm a h2, h3⟩
    real := fun k hk h => g.real k hk fun b l hb hs he hw => h b l hb hs he (hm b hw) }

end Go.Vm
set_option linter.unusedVariables false
set_option linter.unusedSimpArgs false
namespace Go.Vm
variable {P : Program}

def Ren.upd (σ : Ren) (b : Nat) (l : Loc) : Ren := fun x => if x = b then some l else σ x
theorem Ren.upd_same (σ : Ren) (b : Nat) (l : Loc) : σ.upd b l b = some l := by simp [Ren.upd]
theorem Ren.upd_ne (σ : Ren) {b c : Nat} (l : Loc) (h : c ≠ b) : σ.upd b l c = σ c := by simp [Ren.upd, h]
theorem Ren.le_upd {σ : Ren} {b : Nat} (hb : σ b = none) (l : Loc) : σ.le (σ.upd b l) := fun x m h => by
  by_cases e : x = b
  · subst e; rw [hb] at h; cases h
  · rw [Ren.upd_ne σ l e]; exact h

def HF.upd (H : HF) (b : Nat) (o : O) : HF := fun x => if x = b then some o else H x
theorem HF.upd_same (H : HF) (b : Nat) (o : O) : HF.upd H b o b = some o := by simp [HF.upd]
theorem HF.upd_ne (H : HF) {b c : Nat} (o : O) (h : c ≠ b) : HF.upd H b o c = H c := by simp [HF.upd, h]

theorem heap_alloc_new (w : World) (o : Obj) : (w.alloc o).heap[w.heap.size]? = some o := by show (w.heap.push o)[w.heap.size]? = _; simp
theorem heap_alloc_old (w : World) (o : Obj) {r : Nat} (h : r < w.heap.size) : (w.alloc o).heap[r]? = w.heap[r]? := by
  show (w.heap.push o)[r]? = _; rw [Array.getElem?_push_lt h, Array.getElem?_eq_getElem h]

theorem goes_push {H : HF} {σ : Ren} {w : World} (hi : Inv P H σ w) {n : Nat} (hσ : σ n = none) (hH : H n = none) {o : O} {o' : Obj} (s : Nat) {N W : Nat → Prop} (hN : ∀ b, N b ↔ b = n)
    (hd : o.isDead = false) (hr : BRel P (σ.upd n ⟨w.heap.size, 0, s⟩) ⟨w.heap.size, 0, s⟩ o (some o')) :
    Goes P N W H (HF.upd H n o) σ (σ.upd n ⟨w.heap.size, 0, s⟩) w (w.alloc o') := by
  have hle := Ren.le_upd hσ ⟨w.heap.size, 0, s⟩
  have hlive : ∀ b, b ≠ n → liveIn (HF.upd H n o) b → liveIn H b := fun b hb ⟨x, hx, hx'⟩ => ⟨x, by rwa [HF.upd_ne H o hb] at hx, hx'⟩
  have hsz : ∀ b l, b ≠ n → liveIn (HF.upd H n o) b → σ.upd n ⟨w.heap.size, 0, s⟩ b = some l → l.blk < w.heap.size := fun b l hb hl hs => hi.lt (hlive b hb hl) (by rwa [Ren.upd_ne σ _ hb] at hs)
  obtain ⟨N0, hN0⟩ := hi.fin
  have hfin : ∃ N, ∀ b, N ≤ b → σ.upd n ⟨w.heap.size, 0, s⟩ b = none ∧ HF.upd H n o b = none := ⟨max N0 (n + 1), fun b hb => by
    have hne : b ≠ n := by omega
    rw [Ren.upd_ne σ _ hne, HF.upd_ne H o hne]; exact hN0 b (by omega)⟩
  refine ⟨hle, ?_, ⟨?_, ?_, hfin⟩, ?_, ?_, ?_, ?_, by simp, rfl, rfl, rfl⟩
  · intro b l h
    by_cases e : b = n
    · exact .inr ((hN b).2 e)
    · rw [Ren.upd_ne σ _ e] at h; exact .inl h
  · intro b x hb hx
    by_cases e : b = n
    · subst e
      rw [HF.upd_same] at hb; cases hb
      exact ⟨_, Ren.upd_same σ b _, by rw [heap_alloc_new]; exact hr⟩
    · rw [HF.upd_ne H o e] at hb
      obtain ⟨l, hl, hrel⟩ := hi.rel b x hb hx
      have := hi.lt ⟨x, hb, hx⟩ hl
      exact ⟨l, by rw [Ren.upd_ne σ _ e]; exact hl, by rw [heap_alloc_old w o' this]; exact hrel.le hle⟩
  · intro a b la lb ha hb hsa hsb he
    by_cases ea : a = n
    · by_cases eb : b = n
      · rw [ea, eb]
      · have := hsz b lb eb hb hsb
        subst ea; rw [Ren.upd_same] at hsa; cases hsa; simp at he; omega
    · by_cases eb : b = n
      · have := hsz a la ea ha hsa
        subst eb; rw [Ren.upd_same] at hsb; cases hsb; simp at he; omega
      · rw [Ren.upd_ne σ _ ea] at hsa; rw [Ren.upd_ne σ _ eb] at hsb
        exact hi.inj a b la lb (hlive a ea ha) (hlive b eb hb) hsa hsb he
  · intro b _ hn; exact HF.upd_ne H o fun e => hn ((hN b).2 e)
  · intro b hn hl; exact hlive b (fun e => hn ((hN b).2 e)) hl
  · intro b l hn _ hs
    obtain rfl := (hN b).1 hn
    rw [Ren.upd_same] at hs; cases hs
    exact .inl (Nat.le_refl _)
  · intro k hk _; exact heap_alloc_old w o' hk

theorem goes_set {H : HF} {σ : Ren} {w w' : World} (hi : Inv P H σ w) {b : Nat} {l : Loc} (hb : liveIn H b) (hl : σ b = some l) {o : O} {N W : Nat → Prop} (hN : ∀ b, ¬ N b) (hW : W b)
    (hsz : w'.heap.size = w.heap.size) (hoth : ∀ k, k ≠ l.blk → w'.heap[k]? = w.heap[k]?) (e2 : w'.os = w.os) (e3 : w'.tape = w.tape) (e4 : w'.output = w.output)
    (hr : BRel P σ l o w'.heap[l.blk]?) (hd : o.isDead = false) : Goes P N W H (HF.upd H b o) σ σ w w' := by
  have hlive : ∀ c, liveIn (HF.upd H b o) c → liveIn H c := fun c ⟨x, hx, hx'⟩ => by
    by_cases e : c = b
    · subst e; exact hb
    · exact ⟨x, by rwa [HF.upd_ne H o e] at hx, hx'⟩
  obtain ⟨N0, hN0⟩ := hi.fin
  have hfin : ∃ N, ∀ c, N ≤ c → σ c = none ∧ HF.upd H b o c = none := ⟨N0, fun c hc => by
    have h1 := hN0 c hc
    refine ⟨h1.1, ?_⟩
    have hne : c ≠ b := fun e => by subst e; rw [hl] at h1; cases h1.1
    rw [HF.upd_ne H o hne]; exact h1.2⟩
  refine ⟨Ren.le_refl _, fun _ _ h => .inl h, ⟨?_, fun a c la lc ha hc => hi.inj a c la lc (hlive a ha) (hlive c hc), hfin⟩, ?_, fun c _ hc => hlive c hc, fun c _ hn => absurd hn (hN c), ?_, by omega, e2, e3, e4⟩
  · intro c x hc hx
    by_cases e : c = b
    · subst e
      rw [HF.upd_same] at hc; cases hc
      exact ⟨l, hl, hr⟩
    · rw [HF.upd_ne H o e] at hc
      obtain ⟨m, hm, hrel⟩ := hi.rel c x hc hx
      refine ⟨m, hm, ?_⟩
      rw [hoth m.blk fun he => e (hi.inj c b m l ⟨x, hc, hx⟩ hb hm hl he)]
      exact hrel
  · intro c hw _; exact HF.upd_ne H o fun e => hw (e ▸ hW)
  · intro k hk hne
    exact hoth k fun e => hne b l hb hl e.symm hW

mutual
def toV : Nat → Value → Option V
  | 0, _ => none
  | d + 1, c => match c with
    | .bool b => some (.bool b)
    | .int k n => some (.int k n)
    | .string s => some (.str s)
    | .pointer none => some (.ptr none)
    | .slice none n c => some (.slice none n c true)
    | .map none => some (.map none)
    | .nilFunc => some .nilFunc
    | .nilIface => some .nilIface
    | .tuple vs => match toVL d vs.toList with
      | some l => some (.tuple l)
      | none => none
    | .agg vs => match toVL d vs.toList with
      | some l => some (.agg l)
      | none => none
    | _ => none
def toVL : Nat → List Value → Option (List V)
  | 0, _ => none
  | _ + 1, [] => some []
  | d + 1, c :: r => match toV d c with
    | some v => match toVL d r with
      | some l => some (v :: l)
      | none => none
    | none => none
end

theorem toV_both : ∀ d, (∀ (c : Value) (v : V), toV d c = some v → ∀ σ : Ren, v.on σ ∧ v.re σ = c) ∧ (∀ (c : List Value) (v : List V), toVL d c = some v → ∀ σ : Ren, V.onL σ v ∧ V.reL σ v = c) := by
  intro d
  induction d with
  | zero => exact ⟨fun c v h => by simp [toV] at h, fun c v h => by simp [toVL] at h⟩
  | succ d ih =>
    constructor
    · intro c v h σ
      unfold toV at h
      split at h <;> (try cases h) <;> (try exact ⟨trivial, rfl⟩)
      · rename_i vs
        split at h
        · rename_i l hl; cases h
          have := ih.2 _ _ hl σ
          exact ⟨this.1, by simp [V.re, this.2]⟩
        · cases h
      · rename_i vs
        split at h
        · rename_i l hl; cases h
          have := ih.2 _ _ hl σ
          exact ⟨this.1, by simp [V.re, this.2]⟩
        · cases h
    · intro c v h σ
      cases c with
      | nil => simp only [toVL] at h; cases h; exact ⟨trivial, rfl⟩
      | cons c r =>
        simp only [toVL] at h
        split at h
        · rename_i u hu
          split at h
          · rename_i l hl; cases h
            have h1 := ih.1 _ _ hu σ
            have h2 := ih.2 _ _ hl σ
            exact ⟨⟨h1.1, h2.1⟩, by simp [V.reL, h1.2, h2.2]⟩
          · cases h
        · cases h

def evV (tm : Tm) : Operand → Option V
  | .tmp t => tm.get t
  | .const c => toV 100 c
  | .global _ => none
  | .func f => some (.func f [] [])

def EvOn (σ : Ren) (tm : Tm) (o : Oper) (ρ : Operand → Value) : Prop := ∀ x ∈ o.op.operands, ∀ v, evV tm x = some v → VRel σ v (ρ x)
theorem ev_tmps {σ : Ren} {tm : Tm} {arr : Array Value} (ds : List Deferred) {x : Operand} {v : V} (h : ∀ t u, x = .tmp t → tm.get t = some u → VRel σ u (arr.getD t undef)) (hv : evV tm x = some v) : VRel σ v (Act.eval ⟨arr, ds⟩ x) := by
  cases x with
  | tmp t => exact h t v rfl hv
  | const c => have := (toV_both 100).1 c v hv σ; exact ⟨this.1, this.2.symm⟩
  | global g => cases hv
  | func f => cases hv; exact ⟨⟨trivial, trivial⟩, by simp [Act.eval, V.re, V.reL]⟩
theorem TRel.ev {σ : Ren} {tm : Tm} {arr : Array Value} (h : TRel σ tm arr) (ds : List Deferred) (o : Oper) : EvOn σ tm o (Act.eval ⟨arr, ds⟩) :=
  fun _ _ _ hv => ev_tmps ds (fun t u _ hu => h.2 t u hu) hv

def evVs (tm : Tm) : List Operand → Option (List V)
  | [] => some []
  | x :: r => match evV tm x with
    | some v => match evVs tm r with
      | some vs => some (v :: vs)
      | none => none
    | none => none
theorem evVs_rel {σ : Ren} {tm : Tm} {ρ : Operand → Value} : ∀ (l : List Operand) (vs : List V), (∀ x ∈ l, ∀ v, evV tm x = some v → VRel σ v (ρ x)) → evVs tm l = some vs → V.onL σ vs ∧ l.map ρ = V.reL σ vs
  | [], vs, _, h => by cases h; exact ⟨trivial, rfl⟩
  | x :: r, vs, he, h => by
    unfold evVs at h
    split at h
    · rename_i v hv
      split at h
      · rename_i us hus; cases h
        have h1 := he x (by simp) v hv
        have h2 := evVs_rel r us (fun y hy => he y (by simp [hy])) hus
        exact ⟨⟨h1.1, h2.1⟩, by simp [V.reL, h1.2, h2.2]⟩
      · cases h
    · cases h

structure Pr where
  v : V
  h : Heap
  r : List Nat
  w : List Nat

def PrimOk (P : Program) (tm : Tm) (o : Oper) (h : Heap) (pr : Pr) : Prop :=
  h.n ≤ pr.h.n ∧ (∀ b, b < h.n → b ∉ pr.w → pr.h.get b = h.get b) ∧ (∀ b, b ∈ pr.r ∨ b ∈ pr.w → b < h.n) ∧
  ∀ (H : HF) (σ : Ren) (w : World) (ρ : Operand → Value), EvOn σ tm o ρ → (∀ b, b ∈ pr.r ∨ b ∈ pr.w → H b = h.get b) → (∀ b, h.n ≤ b → b < pr.h.n → σ b = none ∧ H b = none) → Inv P H σ w →
    ∃ σ' w' H' nx x, (execOp ρ o).run P w = .ok nx w' ∧ (nx = .value x ∨ nx = .skip ∧ x = undef) ∧ VRel σ' pr.v x ∧
      Goes P (fun b => h.n ≤ b ∧ b < pr.h.n) (· ∈ pr.w) H H' σ σ' w w' ∧ ∀ b, (h.n ≤ b ∧ b < pr.h.n) ∨ b ∈ pr.w → H' b = pr.h.get b

theorem PrimOk.read {tm : Tm} {o : Oper} {h : Heap} {v : V} {rs : List Nat}
    (hrun : ∀ (H : HF) σ w ρ, EvOn σ tm o ρ → (∀ b, b ∈ rs → H b = h.get b) → Inv P H σ w → v.on σ ∧ (execOp ρ o).run P w = .ok (.value (v.re σ)) w) (hrs : ∀ b ∈ rs, b < h.n := by simp) : PrimOk P tm o h ⟨v, h, rs, []⟩ :=
  ⟨Nat.le_refl _, fun _ _ _ => rfl, fun b hb => by simp at hb; exact hrs b hb, fun H σ w ρ he hr _ hi =>
    have h := hrun H σ w ρ he (fun b hb => hr b (.inl hb)) hi
    ⟨σ, w, H, _, _, h.2, .inl rfl, ⟨h.1, rfl⟩, Goes.refl hi (fun b hb => by dsimp only at hb; omega), fun b hb => by simp at hb; omega⟩⟩
theorem PrimOk.pure {tm : Tm} {o : Oper} {h : Heap} {v : V}
    (hrun : ∀ σ w ρ, EvOn σ tm o ρ → v.on σ ∧ (execOp ρ o).run P w = .ok (.value (v.re σ)) w) : PrimOk P tm o h ⟨v, h, [], []⟩ :=
  PrimOk.read fun _ σ w ρ he _ _ => hrun σ w ρ he
theorem PrimOk.make {tm : Tm} {o : Oper} {h : Heap} {v : V} {x : O} {rs : List Nat} (hx : x.isDead = false)
    (hrun : ∀ (H : HF) σ w ρ, EvOn σ tm o ρ → (∀ b, b ∈ rs → H b = h.get b) → Inv P H σ w → σ h.n = none →
      ∃ (w1 : World) (o' : Obj) (s : Nat), w1.heap = w.heap ∧ w1.os = w.os ∧ w1.tape = w.tape ∧ w1.output = w.output ∧
        BRel P (σ.upd h.n ⟨w.heap.size, 0, s⟩) ⟨w.heap.size, 0, s⟩ x (some o') ∧ v.on (σ.upd h.n ⟨w.heap.size, 0, s⟩) ∧
        (execOp ρ o).run P w = .ok (.value (v.re (σ.upd h.n ⟨w.heap.size, 0, s⟩))) (w1.alloc o')) (hrs : ∀ b ∈ rs, b < h.n := by simp) : PrimOk P tm o h ⟨v, h.push x, rs, []⟩ := by
  refine ⟨by simp, fun b hb _ => by rw [Heap.get_push, if_neg (by omega)], fun b hb => by simp at hb; exact hrs b hb, fun H σ w ρ he hr hf hi => ?_⟩
  have hfn := hf h.n (Nat.le_refl _) (by simp)
  obtain ⟨w1, o', s, e1, e2, e3, e4, hB, hv, hrun⟩ := hrun H σ w ρ he (fun b hb => hr b (.inl hb)) hi hfn.1
  have hi1 : Inv P H σ w1 := hi.heap e1
  have hsz : w1.heap.size = w.heap.size := by rw [e1]
  have g := goes_push (W := (· ∈ ([] : List Nat))) hi1 hfn.1 hfn.2 s (N := fun b => h.n ≤ b ∧ b < (h.push x).n) (fun b => by simp; omega) hx (o' := o') (by rw [hsz]; exact hB)
  rw [hsz] at g
  refine ⟨_, _, HF.upd H h.n x, _, _, hrun, .inl rfl, ⟨hv, rfl⟩, ?_, fun b hb => ?_⟩
  · exact { g with
      fresh := fun b l hb hl hs => by have := g.fresh b l hb hl hs; rwa [hsz] at this
      real := fun k hk hne => by rw [g.real k (by omega) hne, e1]
      size := by have := g.size; omega
      os := g.os.trans e2, tape := g.tape.trans e3, output := g.output.trans e4 }
  · have : b = h.n := by simp at hb; omega
    subst this
    rw [HF.upd_same, Heap.get_push, if_pos rfl]
theorem PrimOk.write {tm : Tm} {o : Oper} {h : Heap} {v : V} {b : Nat} {x y : O} {rs : List Nat} (hg : h.get b = some x) (hx : x.isDead = false) (hy : y.isDead = false)
    (hrun : ∀ (H : HF) σ w ρ, EvOn σ tm o ρ → (∀ c, c ∈ rs → H c = h.get c) → Inv P H σ w → ∀ l, σ b = some l → BRel P σ l x w.heap[l.blk]? →
      ∃ (w' : World) (nx : Next) (z : Value), w'.heap.size = w.heap.size ∧ (∀ k, k ≠ l.blk → w'.heap[k]? = w.heap[k]?) ∧ w'.os = w.os ∧ w'.tape = w.tape ∧ w'.output = w.output ∧
        BRel P σ l y w'.heap[l.blk]? ∧ (nx = .value z ∨ nx = .skip ∧ z = undef) ∧ VRel σ v z ∧ (execOp ρ o).run P w = .ok nx w') (hrs : ∀ b ∈ rs, b < h.n := by simp) : PrimOk P tm o h ⟨v, h.set b y, rs, [b]⟩ := by
  have hbn := Heap.get_lt hg
  refine ⟨by simp, fun c hc hw => by rw [Heap.get_set h b c y hbn, if_neg (by simpa using hw)], fun c hc => by
    rcases hc with hc | hc
    · exact hrs c hc
    · simp at hc; subst hc; exact hbn, fun H σ w ρ he hr hf hi => ?_⟩
  have hHb : H b = some x := by rw [hr b (.inr (by simp)), hg]
  obtain ⟨l, hl, hB⟩ := hi.rel b x hHb hx
  obtain ⟨w', nx, z, e1, e2, e3, e4, e5, hB', hnx, hv, hrun⟩ := hrun H σ w ρ he (fun c hc => hr c (.inl hc)) hi l hl hB
  refine ⟨σ, w', HF.upd H b y, nx, z, hrun, hnx, hv, goes_set hi ⟨x, hHb, hx⟩ hl (fun c hc => by simp at hc; omega) (by simp) e1 e2 e3 e4 e5 hB' hy, fun c hc => ?_⟩
  have : c = b := by simp at hc; omega
  subst this
  rw [HF.upd_same, Heap.get_set h c c y hbn, if_pos rfl]

end Go.Vm
set_option linter.unusedVariables false
set_option linter.unusedSimpArgs false
namespace Go.Vm
variable {P : Program}

def intBin (op : BinOp) (k : IntKind) (a b : Int) : Option V :=
  match op with
  | .add => some (.int k (k.wrap (a + b)))
  | .sub => some (.int k (k.wrap (a - b)))
  | .mul => some (.int k (k.wrap (a * b)))
  | .quo => if b = 0 then none else some (.int k (k.wrap (a.tdiv b)))
  | .rem => if b = 0 then none else some (.int k (a.tmod b))
  | .and => some (.int k (k.wrap (BitVec.ofInt k.bits a &&& BitVec.ofInt k.bits b).toNat))
  | .or => some (.int k (k.wrap (BitVec.ofInt k.bits a ||| BitVec.ofInt k.bits b).toNat))
  | .xor => some (.int k (k.wrap (BitVec.ofInt k.bits a ^^^ BitVec.ofInt k.bits b).toNat))
  | .andNot => some (.int k (k.wrap (BitVec.ofInt k.bits a &&& ~~~ BitVec.ofInt k.bits b).toNat))
  | .eql => some (.bool (a == b))
  | .neq => some (.bool (a != b))
  | .lss => some (.bool (a < b))
  | .leq => some (.bool (a ≤ b))
  | .gtr => some (.bool (a > b))
  | .geq => some (.bool (a ≥ b))
  | .shl | .shr => none
def intShift (op : BinOp) (k : IntKind) (a b : Int) : Option V :=
  if b < 0 then none else match op with
  | .shl => some (.int k (k.wrap (a * 2 ^ (min b.toNat k.bits))))
  | .shr => some (.int k (a.fdiv (2 ^ (min b.toNat k.bits))))
  | _ => none

theorem intBin_sound {op : BinOp} {k : IntKind} {a b : Int} {v : V} (h : intBin op k a b = some v) (t : TypeId) (w : World) (σ : Ren) :
    (binOp op t (.int k a) (.int k b)).run P w = .ok (v.re σ) w ∧ v.on σ := by
  cases op <;> simp only [intBin] at h <;> (try (split at h)) <;> (try cases h) <;>
    (first
      | (refine ⟨?_, trivial⟩; simp [binOp, Op.intArith, Op.intDiv, Op.intBits, Op.intCmp, V.re, *]; done)
      | (refine ⟨?_, trivial⟩; simp [binOp, Op.intArith, Op.intDiv, Op.intBits, Op.intCmp, V.re]; done))
theorem intShift_sound {op : BinOp} {k k' : IntKind} {a b : Int} {v : V} (h : intShift op k a b = some v) (t : TypeId) (w : World) (σ : Ren) :
    (binOp op t (.int k a) (.int k' b)).run P w = .ok (v.re σ) w ∧ v.on σ := by
  unfold intShift at h
  split at h
  · cases h
  · rename_i hb
    cases op <;> simp only [] at h <;> (try cases h) <;> refine ⟨?_, trivial⟩ <;> simp [binOp, Op.shift, hb, V.re]

def eqB : List UInt8 → List UInt8 → Bool
  | [], [] => true
  | a :: l, b :: r => match Nat.beq a.toNat b.toNat with
    | true => eqB l r
    | false => false
  | _, _ => false
theorem eqB_eq : ∀ (a b : List UInt8), eqB a b = (a == b)
  | [], [] => rfl
  | a :: l, [] => rfl
  | [], b :: r => rfl
  | a :: l, b :: r => by
    unfold eqB
    split
    · rename_i h
      have h := UInt8.toNat_inj.1 (Nat.eq_of_beq_eq_true h)
      subst h
      rw [eqB_eq l r]; simp
    · rename_i h
      have hne : a ≠ b := fun e => by subst e; simp at h
      simp [hne]
theorem eqB_bytes (a b : ByteArray) : eqB a.data.toList b.data.toList = (a.toList == b.toList) := by rw [eqB_eq, ByteArray.toList_eq, ByteArray.toList_eq]
def strBin (op : BinOp) (a b : ByteArray) : Option V :=
  match op with
  | .eql => some (.bool (eqB a.data.toList b.data.toList))
  | .neq => some (.bool (!eqB a.data.toList b.data.toList))
  | .lss => some (.bool (Op.bytesLess a.data.toList b.data.toList))
  | .leq => some (.bool (Op.bytesLess a.data.toList b.data.toList || eqB a.data.toList b.data.toList))
  | .gtr => some (.bool (!(Op.bytesLess a.data.toList b.data.toList || eqB a.data.toList b.data.toList)))
  | .geq => some (.bool (!Op.bytesLess a.data.toList b.data.toList))
  | .add => if ((a.size + b.size : Nat) : Int) > IntKind.i64.max then none else some (.str (a ++ b))
  | _ => none
theorem strBin_sound {op : BinOp} {a b : ByteArray} {v : V} (h : strBin op a b = some v) (t : TypeId) (w : World) (σ : Ren) :
    (binOp op t (.string a) (.string b)).run P w = .ok (v.re σ) w ∧ v.on σ := by
  have e : ∀ x : ByteArray, x.data.toList = x.toList := fun x => (ByteArray.toList_eq x).symm
  cases op <;> simp only [strBin, eqB_eq, e] at h <;> (try (split at h)) <;> (try cases h) <;>
    (first
      | (refine ⟨?_, trivial⟩; simp [binOp, Op.stringOp, V.re]; done)
      | (refine ⟨?_, trivial⟩; rename_i hh; simp only [binOp, Op.stringOp, if_neg hh]; rfl))

def szV (P : Program) (t : TypeId) : Option Nat := (P.info? t).map (·.size)
theorem run_szV {t : TypeId} {n : Nat} (h : szV P t = some n) (w : World) : (sizeOf t).run P w = .ok n w := by
  unfold szV at h
  cases hi : P.info? t with
  | none => simp [hi] at h
  | some i => simp [hi] at h; simp [sizeOf, typeInfo, hi, h]
theorem run_sameAddr (a : Addr) (w : World) : (sameAddr a a).run P w = .ok true w := by
  simp [sameAddr]
def eqSmall (P : Program) (t : TypeId) (x y : V) : Option Bool :=
  match P.underlying t, x, y with
  | some .bool, .bool a, .bool b => some (a == b)
  | some (.pointer _), .ptr none, .ptr b => some b.isNone
  | some (.pointer _), .ptr (some _), .ptr none => some false
  | some (.pointer e), .ptr (some a), .ptr (some b) => match szV P e, Nat.beq a.1 b.1, Nat.beq a.2 b.2 with
    | some _, true, true => some true
    | _, _, _ => none
  | some (.slice _), .slice none _ _ _, .slice b _ _ _ => some b.isNone
  | some (.slice _), .slice (some _) _ _ _, .slice none _ _ _ => some false
  | some (.slice _), .esl _, .slice none _ _ _ => some false
  | some (.slice _), .slice none _ _ _, .esl _ => some false
  | some (.interface _), .iface _ _, .nilIface => some false
  | some (.interface _), .nilIface, .iface _ _ => some false
  | some (.map _ _), .map none, .map b => some b.isNone
  | some (.map _ _), .map (some _), .map none => some false
  | some (.func _ _ _), .nilFunc, .nilFunc => some true
  | some (.func _ _ _), .nilFunc, .func _ _ _ => some false
  | some (.func _ _ _), .func _ _ _, .nilFunc => some false
  | some (.func _ _ _), .nilFunc, .yield _ => some false
  | some (.func _ _ _), .yield _, .nilFunc => some false
  | _, _, _ => none
theorem eqPtr_in {e t : TypeId} {a b : Nat × Nat} {bb : Bool} (hu : P.underlying t = some (.pointer e)) (h : (match szV P e, Nat.beq a.1 b.1, Nat.beq a.2 b.2 with
    | some _, true, true => some true
    | _, _, _ => none) = some bb) (w : World) (σ : Ren) (d : Nat) : (Op.equalIn (d + 1) t ((V.ptr (some a)).re σ) ((V.ptr (some b)).re σ)).run P w = .ok bb w := by
  cases hs : szV P e with
  | none => simp [hs] at h
  | some n =>
    cases e1 : Nat.beq a.1 b.1 with
    | false => simp [hs, e1] at h
    | true =>
      cases e2 : Nat.beq a.2 b.2 with
      | false => simp [hs, e1, e2] at h
      | true =>
        simp [hs, e1, e2] at h
        subst h
        have h1 := Nat.eq_of_beq_eq_true e1
        have h2 := Nat.eq_of_beq_eq_true e2
        obtain rfl : a = b := Prod.ext h1 h2
        simp [Op.equalIn, run_underlying hu, V.re, run_szV hs, run_sameAddr]
theorem eqSmall_in {t : TypeId} {x y : V} {b : Bool} (h : eqSmall P t x y = some b) (w : World) (σ : Ren) (d : Nat) :
    (Op.equalIn (d + 1) t (x.re σ) (y.re σ)).run P w = .ok b w := by
  unfold eqSmall at h
  split at h <;> (try (cases h; done)) <;> rename_i hu <;> first | exact eqPtr_in hu h w σ d | (cases h; simp [Op.equalIn, run_underlying hu, V.re])
  all_goals (first | (rename_i a _ _ _; cases a <;> simp [V.re]; done) | (rename_i a; cases a <;> simp [V.re]; done) | skip)
theorem eqSmall_sound {t : TypeId} {x y : V} {b : Bool} (h : eqSmall P t x y = some b) (w : World) (σ : Ren) :
    (Op.equal t (x.re σ) (y.re σ)).run P w = .ok b w := eqSmall_in h w σ 9999

def aggV (P : Program) (t : TypeId) : Option Bool := match P.underlying t with
  | some (.struct _) => some true
  | some (.array _ _) => some true
  | some _ => some false
  | none => none
theorem run_aggV {t : TypeId} {b : Bool} (h : aggV P t = some b) (w : World) : (isAgg t).run P w = .ok b w := by
  unfold aggV at h
  split at h <;> (try cases h)
  · rename_i hu; simp [isAgg, run_underlying hu]
  · rename_i hu; simp [isAgg, run_underlying hu]
  · rename_i d h1 h2 hu
    simp only [isAgg, Sem.run_bind, run_underlying hu, Result.andThen_ok]
    cases d <;> simp_all

def binV (P : Program) (op : BinOp) (t : TypeId) (x y : V) : Option V :=
  match x, y with
  | .int k a, .int k' b => match op with
    | .shl => intShift .shl k a b
    | .shr => intShift .shr k a b
    | op => if k = k' then intBin op k a b else none
  | .str a, .str b => strBin op a b
  | x, y => match op with
    | .eql => match eqSmall P t x y with
      | some b => some (.bool b)
      | none => none
    | .neq => match eqSmall P t x y with
      | some b => some (.bool (!b))
      | none => none
    | _ => none

theorem eqGuard_small {t : TypeId} {x y : V} {b : Bool} (h : eqSmall P t x y = some b) (op : BinOp) (ox oy : Operand) (w : World) (σ : Ren) :
    (eqGuard op t ox oy (x.re σ) (y.re σ)).run P w = .ok () w := by
  unfold eqSmall at h
  unfold eqGuard
  split at h <;> (try cases h) <;> cases op <;> simp [V.re]
  all_goals (first | (rename_i a _ _ _ _; cases a <;> simp [V.re]; done) | (rename_i a _; cases a <;> simp [V.re]; done) | skip)

theorem binV_sound {op : BinOp} {t : TypeId} {x y : V} {v : V} (h : binV P op t x y = some v) (ox oy : Operand) (w : World) (σ : Ren) :
    ((do eqGuard op t ox oy (x.re σ) (y.re σ); binOp op t (x.re σ) (y.re σ)) : Sem Value).run P w = .ok (v.re σ) w ∧ v.on σ := by
  unfold binV at h
  split at h
  · rename_i k a k' b
    have hg : (eqGuard op t ox oy ((V.int k a).re σ) ((V.int k' b).re σ)).run P w = .ok () w := by
      cases op <;> simp [eqGuard, V.re]
    simp only [Sem.run_bind, hg, Result.andThen_ok]
    split at h
    · exact intShift_sound h t w σ
    · exact intShift_sound h t w σ
    · split at h
      · rename_i e; subst e; exact intBin_sound h t w σ
      · cases h
  · rename_i a b
    have hg : (eqGuard op t ox oy ((V.str a).re σ) ((V.str b).re σ)).run P w = .ok () w := by
      cases op <;> simp [eqGuard, V.re]
    simp only [Sem.run_bind, hg, Result.andThen_ok]
    exact strBin_sound h t w σ
  · rename_i hni hns
    split at h
    · split at h
      · rename_i b hb
        cases h
        refine ⟨?_, trivial⟩
        simp only [Sem.run_bind, eqGuard_small hb, Result.andThen_ok]
        have hq := eqSmall_sound hb w σ
        have : binOp .eql t (x.re σ) (y.re σ) = (do Pure.pure (Value.bool (← Op.equal t (x.re σ) (y.re σ))) : Sem Value) := by
          unfold eqSmall at hb
          split at hb <;> (try cases hb) <;> simp [V.re, binOp]
          all_goals (first | (rename_i a _ _ _ _; cases a <;> simp [V.re, binOp]; done) | (rename_i a _; cases a <;> simp [V.re, binOp]; done) | skip)
        rw [this]
        simp [hq, V.re]
      · cases h
    · split at h
      · rename_i b hb
        cases h
        refine ⟨?_, trivial⟩
        simp only [Sem.run_bind, eqGuard_small hb, Result.andThen_ok]
        have hq := eqSmall_sound hb w σ
        have : binOp .neq t (x.re σ) (y.re σ) = (do Pure.pure (Value.bool (!(← Op.equal t (x.re σ) (y.re σ)))) : Sem Value) := by
          unfold eqSmall at hb
          split at hb <;> (try cases hb) <;> simp [V.re, binOp]
          all_goals (first | (rename_i a _ _ _ _; cases a <;> simp [V.re, binOp]; done) | (rename_i a _; cases a <;> simp [V.re, binOp]; done) | skip)
        rw [this]
        simp [hq, V.re]
      · cases h
    · cases h

def unV (op : UnOp) (x : V) : Option V := match op, x with
  | .not, .bool b => some (.bool (!b))
  | .neg, .int k n => some (.int k (k.wrap (0 - n)))
  | .xor, .int k n => intBin .xor k (if k.signed then -1 else k.max) n
  | _, _ => none
theorem unV_sound {op : UnOp} {x v : V} (h : unV op x = some v) (w : World) (σ : Ren) : (Op.unary op (x.re σ)).run P w = .ok (v.re σ) w ∧ v.on σ := by
  unfold unV at h
  split at h
  · cases h; exact ⟨by simp [Op.unary, V.re], trivial⟩
  · cases h; exact ⟨by simp [Op.unary, Op.intArith, V.re], trivial⟩
  · simp only [intBin] at h; cases h; exact ⟨by simp [Op.unary, Op.intBits, V.re], trivial⟩
  · cases h

end Go.Vm
set_option linter.unusedVariables false
set_option linter.unusedSimpArgs false
namespace Go.Vm
variable {P : Program} {tm : Tm} {o : Oper} {h : Heap}

theorem addr_add (σ : Ren) (b off i : Nat) : (reA σ (b, off)).add i = reA σ (b, off + i) := by
  unfold Addr.add reA; split
  · rename_i e; subst e; rfl
  · simp [Nat.add_assoc]

def V.one : V → Bool
  | .agg _ => false
  | .tuple _ => false
  | .raw _ => false
  | _ => true
def V.cellsV : V → List V
  | .agg c => c
  | .raw x => x.cells.toList.map .raw
  | v => [v]
theorem cellsV_re (σ : Ren) (v : V) : (v.re σ).cells = (v.cellsV.map (V.re σ)).toArray := by
  cases v with
  | agg c => simp [V.re, Value.cells, V.cellsV, V.reL_eq]
  | raw x =>
    have : ∀ l : List Value, l.map (V.re σ ∘ V.raw) = l := fun l => by induction l with
      | nil => rfl
      | cons a l ih => simp [V.re, ih]
    simp [V.re, V.cellsV, this]
  | ptr a => cases a <;> simp [V.re, Value.cells, V.cellsV]
  | slice a n c ex => cases a <;> simp [V.re, Value.cells, V.cellsV]
  | _ => simp [V.re, Value.cells, V.cellsV]
theorem cellsV_on {σ : Ren} {v : V} (hv : v.on σ) : ∀ u ∈ v.cellsV, u.on σ := by
  cases v with
  | agg c => exact (V.onL_iff σ c).1 hv
  | raw x =>
    intro u hu
    obtain ⟨y, _, rfl⟩ := List.mem_map.1 hu
    trivial
  | _ => intro u hu; simp [V.cellsV] at hu; subst hu; exact hv
theorem one_re {σ : Ren} {v : V} (hv : v.one = true) : (v.re σ).oneCell' = true := by
  cases v with
  | slice a n c ex => cases a <;> rfl
  | agg c => cases hv
  | tuple c => cases hv
  | raw c => cases hv
  | _ => rfl
def allOne : List V → Bool
  | [] => true
  | v :: r => match v.one with
    | true => allOne r
    | false => false
theorem allOne_mem : ∀ {l : List V}, allOne l = true → ∀ v ∈ l, v.one = true
  | v :: r, h, u, hu => by
    unfold allOne at h
    split at h
    · rename_i hv
      rcases List.mem_cons.1 hu with rfl | hu
      · exact hv
      · exact allOne_mem h u hu
    · cases h

theorem cells_rel {H : HF} {σ : Ren} {w : World} (hi : Inv P H σ w) {b : Nat} {c : Blk} {e : TypeId} (hg : H b = some (.cells c e)) :
    ∃ l arr fz, (c.ro = false → FzOk arr.size fz) ∧ σ b = some l ∧ w.heap[l.blk]? = some (.cells arr e fz) ∧ arr.size = l.sh + c.size + l.slk * P.cellsOf e ∧ ∀ i, i < c.size → (c.get i).on σ ∧ arr[l.sh + i]? = some ((c.get i).re σ) := by
  obtain ⟨l, hl, arr, ⟨fz, hz, h1⟩, h2, h3⟩ := hi.rel b _ hg rfl
  exact ⟨l, arr, fz, hz, hl, h1, h2, h3⟩
theorem cell_of_rel {H : HF} {σ : Ren} {w : World} (hi : Inv P H σ w) {b : Nat} {c : Blk} {e : TypeId} (hg : H b = some (.cells c e)) {i : Nat} (hlt : i < c.size) :
    (c.get i).on σ ∧ w.cell? (reA σ (b, i)) = some ((c.get i).re σ) := by
  obtain ⟨l, arr, fz, hz, hl, h1, h2, h3⟩ := cells_rel hi hg
  refine ⟨(h3 i hlt).1, ?_⟩
  simp [World.cell?, reA, Ren.b_eq hl, Ren.s_eq hl, h1, (h3 i hlt).2]
theorem onL_gets {σ : Ren} {c : Blk} (hc : ∀ i, i < c.size → (c.get i).on σ) (off k : Nat) (hk : off + k ≤ c.size) : V.onL σ (c.gets off k) := by
  rw [V.onL_iff]
  intro v hv
  obtain ⟨j, hj, rfl⟩ := List.getElem_of_mem hv
  have hj' : j < k := by rw [Blk.length_gets] at hj; exact hj
  have := Blk.gets_get c k off j hj'
  rw [List.getElem?_eq_getElem hj, Option.some.injEq] at this
  rw [this]
  exact hc _ (by omega)
theorem loadCells_rel {H : HF} {σ : Ren} {w : World} (hi : Inv P H σ w) {b : Nat} {c : Blk} {e : TypeId} (hg : H b = some (.cells c e)) (off n : Nat) (hn : off + n ≤ c.size) :
    V.onL σ (c.gets off n) ∧ (loadCells (reA σ (b, off)) n).run P w = .ok (V.reL σ (c.gets off n)).toArray w := by
  refine ⟨onL_gets (fun i hlt => (cell_of_rel hi hg hlt).1) off n hn, ?_⟩
  have hl : ((c.gets off n).map (V.re σ)).length = n := by simp [Blk.length_gets]
  have := run_loadCells_list (P := P) w (reA σ (b, off)) ((c.gets off n).map (V.re σ)) (fun j v hv => by
    rw [List.getElem?_map] at hv
    by_cases hj : j < n
    · rw [Blk.gets_get c n off j hj] at hv
      simp at hv
      rw [addr_add, (cell_of_rel hi hg (by omega)).2, hv]
    · rw [List.getElem?_eq_none (by rw [Blk.length_gets]; omega)] at hv
      cases hv)
  rwa [hl, ← V.reL_eq] at this

theorem splice_get (l vs : List Value) (k i : Nat) (hk : k + vs.length ≤ l.length) :
    (l.take k ++ vs ++ l.drop (k + vs.length))[i]? = if k ≤ i ∧ i < k + vs.length then vs[i - k]? else l[i]? := by
  by_cases h1 : i < k
  · rw [List.append_assoc, List.getElem?_append_left (by simp; omega), List.getElem?_take_of_lt h1, if_neg (by omega)]
  · by_cases h2 : i < k + vs.length
    · rw [List.getElem?_append_left (by simp; omega), List.getElem?_append_right (by simp; omega), if_pos (by omega)]
      congr 1; simp; omega
    · rw [List.getElem?_append_right (by simp; omega), List.getElem?_drop, if_neg (by omega)]
      congr 1; simp; omega

theorem FzOk.of_size {n m : Nat} {fz : Nat × Nat} (h : FzOk n fz) (e : m = n) : FzOk m fz := e ▸ h
theorem run_storeCells_fz (g o : Nat) (t : TypeId) {n : Nat} {fz : Nat × Nat} (hz : FzOk n fz) : ∀ (vs : List Value) (i : Nat) (cur : Array Value) (w : World), cur.size = n → w.heap[g]? = some (.cells cur t fz) → o + i + vs.length ≤ cur.size → (∀ v ∈ vs, v.oneCell' = true) →
    (storeCells ⟨g, o, none⟩ vs i).run P w = .ok () (w.setRow g (cur.toList.take (o + i) ++ vs ++ cur.toList.drop (o + i + vs.length)).toArray) := by
  intro vs
  induction vs with
  | nil =>
    intro i cur w _ hg _ _
    simp only [storeCells, List.append_nil, List.length_nil, Nat.add_zero, List.take_append_drop, Array.toArray_toList, setRow_self w g cur t fz hg]
    rfl
  | cons v rest ih =>
    intro i cur w hn hg hl h1
    rw [List.length_cons] at hl
    have hi : o + i < cur.size := by omega
    have hadd : (⟨g, o, none⟩ : Addr).add i = ⟨g, o + i, none⟩ := by unfold Addr.add; split <;> simp_all
    have hfro : w.frozen? ⟨g, o + i, none⟩ = false := by
      simp only [World.frozen?, hg]
      rcases hz with rfl | hz
      · simp
      · have : ¬ (fz.1 ≤ o + i) := by omega
        simp [this]
    have hst : (store ((⟨g, o, none⟩ : Addr).add i) v).run P w = .ok () (w.setRow g (cur.setIfInBounds (o + i) v)) := by
      rw [hadd, run_store P w _ v _ (h1 v (List.mem_cons_self ..)), show w.cell? ⟨g, o + i, none⟩ = some cur[o + i] by simp [World.cell?, hg, hi]]
      simp [hfro, setCell_eq_setRow w g (o + i) cur t fz v hg]
    have hr := ih (i + 1) (cur.setIfInBounds (o + i) v) (w.setRow g (cur.setIfInBounds (o + i) v)) (by simpa using hn) (setRow_heap w g cur _ t fz hg) (by rw [Array.size_setIfInBounds]; omega) (fun x hx => h1 x (List.mem_cons_of_mem _ hx))
    have e := list_seg_step cur.toList (o + i) v rest (by rw [Array.length_toList]; omega)
    simp only [storeCells, Sem.run_bind, hst, Result.andThen_ok, hr, setRow_setRow, Array.toList_setIfInBounds, List.length_cons]
    rw [← e]
    congr 3

theorem storeCells_rel {σ : Ren} {w : World} {l : Loc} {b : Nat} {c : Blk} {e : TypeId} (hl : σ b = some l) (hB : BRel P σ l (.cells c e) w.heap[l.blk]?) (hro : c.ro = false) (off : Nat) (vs : List V) (hn : off + vs.length ≤ c.size)
    (h1 : ∀ v ∈ vs, v.one = true) (hon : ∀ v ∈ vs, v.on σ) :
    ∃ w', (storeCells (reA σ (b, off)) (vs.map (V.re σ))).run P w = .ok () w' ∧ w'.heap.size = w.heap.size ∧ (∀ k, k ≠ l.blk → w'.heap[k]? = w.heap[k]?) ∧ w'.os = w.os ∧ w'.tape = w.tape ∧ w'.output = w.output ∧
      BRel P σ l (.cells (c.putA off vs) e) w'.heap[l.blk]? := by
  obtain ⟨arr, ⟨fz, hfz, ha⟩, hsz, hc⟩ := hB
  have hfz := hfz hro
  have hrun := run_storeCells_fz (P := P) l.blk (l.sh + off) e hfz (vs.map (V.re σ)) 0 arr w rfl ha (by simp; omega) (fun v hv => by
    obtain ⟨u, hu, rfl⟩ := List.mem_map.1 hv
    exact one_re (h1 u hu))
  have hA : reA σ (b, off) = ⟨l.blk, l.sh + off, none⟩ := by simp [reA, Ren.b_eq hl, Ren.s_eq hl]
  rw [hA]
  refine ⟨_, hrun, by simp, fun k hk => setRow_other w _ k _ hk, rfl, rfl, rfl, ?_⟩
  rw [setRow_heap w l.blk arr _ e fz ha]
  refine ⟨_, ⟨fz, fun _ => hfz.of_size (by simp; omega), rfl⟩, ?_, fun i hlt => ?_⟩
  · simp [Blk.size_putA]; omega
  · rw [Blk.size_putA] at hlt
    have hg : (arr.toList.take (l.sh + off + 0) ++ vs.map (V.re σ) ++ arr.toList.drop (l.sh + off + 0 + (vs.map (V.re σ)).length)).toArray[l.sh + i]? = if l.sh + off ≤ l.sh + i ∧ l.sh + i < l.sh + off + (vs.map (V.re σ)).length then (vs.map (V.re σ))[l.sh + i - (l.sh + off)]? else arr[l.sh + i]? := by
      rw [List.getElem?_toArray, Nat.add_zero, splice_get _ _ _ _ (by simp; omega), ← Array.getElem?_toList]
    rw [hg, Blk.get_putA _ _ _ _ hlt]
    by_cases hh : off ≤ i ∧ i < off + vs.length
    · rw [if_pos hh, if_pos (by simp; omega)]
      have hlt' : i - off < vs.length := by omega
      have : vs.getD (i - off) undefV = vs[i - off] := by simp [List.getD, List.getElem?_eq_getElem hlt']
      rw [this, show l.sh + i - (l.sh + off) = i - off by omega]
      exact ⟨hon _ (List.getElem_mem _), by simp [List.getElem?_eq_getElem hlt']⟩
    · rw [if_neg hh, if_neg (by simp; omega)]
      exact hc i hlt

theorem ok_move {x : Operand} {v : V} (ho : o.op = .move x ∨ o.op = .assign x) (hv : evV tm x = some v) : PrimOk P tm o h ⟨v, h, [], []⟩ :=
  PrimOk.pure fun σ w ρ he => by
    have hx := he x (by rcases ho with ho | ho <;> simp [ho, Op.operands]) v hv
    exact ⟨hx.1, by rcases ho with ho | ho <;> simp [execOp, ho, hx.2]⟩

theorem ok_pick {c a b : Operand} {t : Bool} {v : V} (ho : o.op = .pick c a b) (hc : evV tm c = some (.bool t)) (hv : evV tm (if t then a else b) = some v) : PrimOk P tm o h ⟨v, h, [], []⟩ :=
  PrimOk.pure fun σ w ρ he => by
    have h1 := he c (by simp [ho, Op.operands]) _ hc
    have h2 := he _ (by cases t <;> simp [ho, Op.operands]) v hv
    refine ⟨h2.1, ?_⟩
    have h1' := h1.2
    have h2' := h2.2
    cases t <;> simp_all [execOp, asBool, V.re]

theorem ok_bin {op : BinOp} {t t' : TypeId} {x y : Operand} {vx vy v : V} (ho : o.op = .binOp op t x y t') (hx : evV tm x = some vx) (hy : evV tm y = some vy) (hv : binV P op t vx vy = some v) : PrimOk P tm o h ⟨v, h, [], []⟩ :=
  PrimOk.pure fun σ w ρ he => by
    have h1 := binV_sound hv x y w σ
    refine ⟨h1.2, ?_⟩
    simp only [execOp, ho, (he x (by simp [ho, Op.operands]) vx hx).2, (he y (by simp [ho, Op.operands]) vy hy).2]
    rw [Sem.run_bind, h1.1]; rfl

theorem ok_un {op : UnOp} {t : TypeId} {x : Operand} {vx v : V} (ho : o.op = .unOp op t x) (hx : evV tm x = some vx) (hv : unV op vx = some v) : PrimOk P tm o h ⟨v, h, [], []⟩ :=
  PrimOk.pure fun σ w ρ he => by
    have h1 := unV_sound (P := P) hv w σ
    refine ⟨h1.2, ?_⟩
    simp only [execOp, ho, (he x (by simp [ho, Op.operands]) vx hx).2]
    rw [Sem.run_bind, h1.1]; rfl

def notNil : V → Bool
  | .ptr none => false
  | .nilIface => false
  | .nilFunc => false
  | .raw _ => false
  | _ => true
theorem ok_nilCheck {x : Operand} {v : V} (ho : o.op = .nilCheck x) (hv : evV tm x = some v) (hn : notNil v = true) : PrimOk P tm o h ⟨v, h, [], []⟩ :=
  PrimOk.pure fun σ w ρ he => by
    have hx := he x (by simp [ho, Op.operands]) v hv
    refine ⟨hx.1, ?_⟩
    simp only [execOp, ho, hx.2]
    cases v with
    | ptr a => cases a <;> simp_all [notNil, V.re]
    | slice a n c ex => cases a <;> simp [V.re]
    | nilIface => cases hn
    | nilFunc => cases hn
    | raw x => cases hn
    | _ => simp [V.re]

theorem ok_makeFunc {f : FuncId} {xs ys : Array Operand} {us vs : List V} (ho : o.op = .makeFunc (.func f) xs ys) (hx : evVs tm xs.toList = some us) (hy : evVs tm ys.toList = some vs) : PrimOk P tm o h ⟨.func f us vs, h, [], []⟩ :=
  PrimOk.pure fun σ w ρ he => by
    have h1 := evVs_rel (ρ := ρ) xs.toList us (fun x hx => he x (by simp only [ho, Op.operands, Array.mem_append]; exact .inl (Array.mem_toList_iff.1 hx))) hx
    have h2 := evVs_rel (ρ := ρ) ys.toList vs (fun x hx => he x (by simp only [ho, Op.operands, Array.mem_append]; exact .inr (Array.mem_toList_iff.1 hx))) hy
    have e1 : xs.map ρ = (V.reL σ us).toArray := by rw [← h1.2, ← Array.toList_map, Array.toArray_toList]
    have e2 : ys.map ρ = (V.reL σ vs).toArray := by rw [← h2.2, ← Array.toList_map, Array.toArray_toList]
    exact ⟨⟨h1.1, h2.1⟩, by simp [execOp, ho, Instr.makeFunc, e1, e2, V.re]⟩

theorem ok_extract {x : Operand} {i : Nat} {vs : List V} {v : V} (ho : o.op = .extract x i) (hx : evV tm x = some (.tuple vs)) (hv : vs[i]? = some v) : PrimOk P tm o h ⟨v, h, [], []⟩ :=
  PrimOk.pure fun σ w ρ he => by
    have h1 := he x (by simp [ho, Op.operands]) _ hx
    refine ⟨(V.onL_iff _ _).1 (show V.onL σ vs from h1.1) v (List.mem_of_getElem? hv), ?_⟩
    simp only [execOp, ho, h1.2, V.re, Instr.extract, V.reL_eq]
    simp [hv]

def fieldOff (P : Program) (s : TypeId) (f : Nat) : Option Nat := match P.underlying s with
  | some (.struct fs) => match fs[f]? with
    | some fl => match szV P fl.type with
      | some n => match Nat.beq n 0 with
        | true => none
        | false => some fl.offset
      | none => none
    | none => none
  | _ => none
theorem ok_fieldAddr {s : TypeId} {x : Operand} {f b off k : Nat} (ho : o.op = .fieldAddr s x f) (hx : evV tm x = some (.ptr (some (b, off)))) (hf : fieldOff P s f = some k) : PrimOk P tm o h ⟨.ptr (some (b, off + k)), h, [], []⟩ :=
  PrimOk.pure fun σ w ρ he => by
    have h1 := he x (by simp [ho, Op.operands]) _ hx
    refine ⟨show σ.is b from h1.1, ?_⟩
    unfold fieldOff at hf
    split at hf
    · rename_i fs hu
      split at hf
      · rename_i fl hfl
        split at hf
        · rename_i n hn
          split at hf
          · cases hf
          · rename_i hz
            cases hf
            have hz' : n ≠ 0 := fun e => by subst e; simp at hz
            have h2 : (fieldPlace (reA σ (b, off)) fl).run P w = .ok (reA σ (b, off + fl.offset)) w := by
              simp only [fieldPlace, Sem.run_bind, run_szV hn, Result.andThen_ok, if_neg hz']
              simp [addr_add]
            simp only [execOp, ho, h1.2, V.re, Option.map_some, Instr.fieldAt]
            simp [run_underlying hu, hfl, Instr.sureAddr, h2]
        · cases hf
      · cases hf
    · cases hf

def idxSlice (P : Program) (t : TypeId) : Option Nat := match P.underlying t with
  | some (.slice e) => szV P e
  | _ => none
theorem ok_indexAddr_slice {t : TypeId} {x ix : Operand} {b off len cap sz : Nat} {ex : Bool} {k : IntKind} {i : Int} (ho : o.op = .indexAddr t x ix)
    (hx : evV tm x = some (.slice (some (b, off)) len cap ex)) (hi : evV tm ix = some (.int k i)) (hs : idxSlice P t = some sz) (h0 : 0 ≤ i) (h1 : i < len) :
    PrimOk P tm o h ⟨.ptr (some (b, off + i.toNat * sz)), h, [], []⟩ :=
  PrimOk.pure fun σ w ρ he => by
    have e1 := he x (by simp [ho, Op.operands]) _ hx
    have e2 := he ix (by simp [ho, Op.operands]) _ hi
    refine ⟨show σ.is b from e1.1, ?_⟩
    unfold idxSlice at hs
    split at hs
    · rename_i e hu
      simp only [execOp, ho, e1.2, e2.2, V.re, Instr.indexAt]
      simp [run_underlying hu, asIntOf, h0, h1, run_szV hs, addr_add]
    · cases hs

def idxArray (P : Program) (t : TypeId) : Option (Nat × Nat) := match P.underlying t with
  | some (.array n e) => match szV P e with
    | some s => some (n, s)
    | none => none
  | _ => none
theorem ok_indexAddr_array {t : TypeId} {x ix : Operand} {b off len sz : Nat} {k : IntKind} {i : Int} (ho : o.op = .indexAddr t x ix)
    (hx : evV tm x = some (.ptr (some (b, off)))) (hi : evV tm ix = some (.int k i)) (hs : idxArray P t = some (len, sz)) (h0 : 0 ≤ i) (h1 : i < len) :
    PrimOk P tm o h ⟨.ptr (some (b, off + i.toNat * sz)), h, [], []⟩ :=
  PrimOk.pure fun σ w ρ he => by
    have e1 := he x (by simp [ho, Op.operands]) _ hx
    have e2 := he ix (by simp [ho, Op.operands]) _ hi
    refine ⟨show σ.is b from e1.1, ?_⟩
    unfold idxArray at hs
    split at hs
    · rename_i n e hu
      split at hs
      · rename_i s hsz
        cases hs
        simp only [execOp, ho, e1.2, e2.2, V.re, Option.map_some, Instr.indexAt]
        simp [run_underlying hu, asIntOf, Instr.sureAddr, h0, h1, run_szV hsz, addr_add]
      · cases hs
    · cases hs

def loadV (P : Program) (t : TypeId) (h : Heap) (b off : Nat) : Option V := match h.get b with
  | some (.cells c _) => match aggV P t with
    | some true => match szV P t with
      | some n => match Nat.ble (off + n) c.size with
        | true => some (.agg (c.gets off n))
        | false => none
      | none => none
    | some false => match Nat.blt off c.size with
      | true => some (c.get off)
      | false => none
    | none => none
  | _ => none

theorem ok_load {t : TypeId} {x : Operand} {b off : Nat} {v : V} (ho : o.op = .load t x) (hx : evV tm x = some (.ptr (some (b, off)))) (hv : loadV P t h b off = some v) : PrimOk P tm o h ⟨v, h, [b], []⟩ := by
  unfold loadV at hv
  split at hv
  · rename_i c e hg
    split at hv
    · rename_i ha
      split at hv
      · rename_i n hn
        split at hv
        · rename_i hle
          have hle : off + n ≤ c.size := Nat.le_of_ble_eq_true hle
          cases hv
          refine PrimOk.read (fun H σ w ρ he hr hi => ?_) (by simp; exact Heap.get_lt hg)
          have h1 := he x (by simp [ho, Op.operands]) _ hx
          have h2 := loadCells_rel hi (by rw [hr b (by simp), hg]) off n hle
          refine ⟨h2.1, ?_⟩
          simp only [execOp, ho, h1.2, V.re, Option.map_some, Instr.loadAt, Instr.sureAddr, loadVar]
          simp [run_aggV ha, run_szV hn, h2.2]
        · cases hv
      · cases hv
    · rename_i ha
      split at hv
      · rename_i hlt
        have hlt : off < c.size := Nat.blt_eq.mp hlt
        cases hv
        refine PrimOk.read (fun H σ w ρ he hr hi => ?_) (by simp; exact Heap.get_lt hg)
        have h1 := he x (by simp [ho, Op.operands]) _ hx
        have h2 := cell_of_rel hi (show H b = some (.cells c e) by rw [hr b (by simp), hg]) hlt
        refine ⟨h2.1, ?_⟩
        simp only [execOp, ho, h1.2, V.re, Option.map_some, Instr.loadAt, Instr.sureAddr, loadVar]
        simp [run_aggV ha, load, Sem.run, h2.2]
      · cases hv
    · cases hv
  · cases hv

def storeV (P : Program) (t : TypeId) (h : Heap) (b off : Nat) (v : V) : Option Heap := match h.get b with
  | some (.cells c e) => match szV P t with
    | some n => match Nat.beq v.cellsV.length n with
      | true => match Nat.ble (off + v.cellsV.length) c.size with
        | true => match allOne v.cellsV with
          | true => match c.ro with
            | false => some (h.set b (.cells (c.putA off v.cellsV) e))
            | true => none
          | false => none
        | false => none
      | false => none
    | none => none
  | _ => none
theorem ok_store {t : TypeId} {x y : Operand} {b off : Nat} {v : V} {h' : Heap} (ho : o.op = .store t x y) (hx : evV tm x = some (.ptr (some (b, off)))) (hy : evV tm y = some v) (hv : storeV P t h b off v = some h') : PrimOk P tm o h ⟨undefV, h', [], [b]⟩ := by
  unfold storeV at hv
  split at hv
  · rename_i c e hg
    split at hv
    · rename_i n hn
      split at hv
      · rename_i hlen
        have hlen : v.cellsV.length = n := Nat.eq_of_beq_eq_true hlen
        split at hv
        · rename_i hle
          have hle : off + v.cellsV.length ≤ c.size := Nat.le_of_ble_eq_true hle
          split at hv
          · rename_i hone
            split at hv
            case h_2 => cases hv
            rename_i hro
            cases hv
            refine PrimOk.write hg rfl rfl fun H σ w ρ he hr hi l hl hB => ?_
            have h1 := he x (by simp [ho, Op.operands]) _ hx
            have h2 := he y (by simp [ho, Op.operands]) _ hy
            obtain ⟨w', hrun, e1, e2, e3, e4, e5, hB'⟩ := storeCells_rel hl hB hro off v.cellsV hle (allOne_mem hone) (cellsV_on h2.1)
            refine ⟨w', .skip, undef, e1, e2, e3, e4, e5, hB', .inr ⟨rfl, rfl⟩, ⟨undefV_on _, (undefV_re _).symm⟩, ?_⟩
            simp only [execOp, ho, h1.2, h2.2, Instr.storeAt, storeVar, cellsV_re]
            simp [V.re, Instr.sureAddr, run_szV hn, hlen, hrun]
          · cases hv
        · cases hv
      · cases hv
    · cases hv
  · cases hv

def zeroV (P : Program) (t : TypeId) : Option V := match P.info? t with
  | some i => match i.zero with
    | some z => toV 100000 z
    | none => none
  | none => none
theorem run_zeroV {t : TypeId} {v : V} (hz : zeroV P t = some v) (w : World) (σ : Ren) : v.on σ ∧ (zeroValue t).run P w = .ok (v.re σ) w := by
  unfold zeroV at hz
  split at hz
  · rename_i i hi
    split at hz
    · rename_i z hzz
      have := (toV_both _).1 z v hz σ
      exact ⟨this.1, by simp [zeroValue, typeInfo, hi, hzz, this.2]⟩
    · cases hz
  · cases hz

theorem brel_of {σ : Ren} {k s : Nat} {vs : List V} {e : TypeId} (hs : s = 0) (hon : ∀ v ∈ vs, v.on σ) : BRel P σ ⟨k, 0, s⟩ (.cells (Blk.of vs) e) (some (.cells (vs.map (V.re σ)).toArray e (0, 0))) := by
  subst hs
  refine ⟨_, ⟨_, fun _ => .inl rfl, rfl⟩, by simp [Blk.of], fun i hi => ?_⟩
  have hi' : i < vs.length := hi
  rw [Blk.get_of vs i hi']
  have : vs.getD i undefV = vs[i] := by simp [List.getD, List.getElem?_eq_getElem hi']
  rw [this]
  exact ⟨hon _ (List.getElem_mem _), by simp [List.getElem?_eq_getElem hi']⟩

theorem on_new (σ : Ren) (n : Nat) (l : Loc) : (σ.upd n l).is n := ⟨l, Ren.upd_same σ n l⟩
theorem reA_new (σ : Ren) (n : Nat) (l : Loc) (off : Nat) : reA (σ.upd n l) (n, off) = ⟨l.blk, l.sh + off, none⟩ := by
  simp [reA, Ren.b_eq (Ren.upd_same σ n l), Ren.s_eq (Ren.upd_same σ n l)]

theorem ok_box {t : TypeId} {x : Operand} {v : V} (ho : o.op = .box t x) (hx : evV tm x = some v) : PrimOk P tm o h ⟨.ptr (some (h.n, 0)), h.push (.cells (Blk.of v.cellsV) t), [], []⟩ :=
  PrimOk.make rfl fun H σ w ρ he hr hi hn => by
    have h1 := he x (by simp [ho, Op.operands]) _ hx
    have hle := Ren.le_upd hn ⟨w.heap.size, 0, 0⟩
    have h2 := V.on_le hle v h1.1
    refine ⟨w, .cells (v.re σ).cells t, 0, rfl, rfl, rfl, rfl, ?_, on_new _ _ _, ?_⟩
    · rw [← h2.2, cellsV_re]; exact brel_of rfl (cellsV_on h2.1)
    · simp only [execOp, ho, h1.2, Instr.box, newVar, newRow, newObj, V.re, Option.map_some, reA_new]
      simp [Sem.run]
theorem ok_alloc {t : TypeId} {v : V} (ho : o.op = .alloc t) (hz : zeroV P t = some v) : PrimOk P tm o h ⟨.ptr (some (h.n, 0)), h.push (.cells (Blk.of v.cellsV) t), [], []⟩ :=
  PrimOk.make rfl fun H σ w ρ he hr hi hn => by
    have h1 := run_zeroV hz w (σ.upd h.n ⟨w.heap.size, 0, 0⟩)
    refine ⟨w, .cells (v.re (σ.upd h.n ⟨w.heap.size, 0, 0⟩)).cells t, 0, rfl, rfl, rfl, rfl, ?_, on_new _ _ _, ?_⟩
    · rw [cellsV_re]; exact brel_of rfl (cellsV_on h1.1)
    · simp only [execOp, ho, Instr.alloc, newVar, newRow, newObj, V.re, Option.map_some, reA_new]
      simp [h1.2, Sem.run]

end Go.Vm
set_option linter.unusedVariables false
set_option linter.unusedSimpArgs false
namespace Go.Vm
variable {P : Program} {tm : Tm} {o : Oper} {h : Heap}

theorem brel_rep {σ : Ren} {k s n : Nat} {vs : List V} {e : TypeId} (hs : s = 0) (hz : n = 0 ∨ vs ≠ []) (hon : ∀ v ∈ vs, v.on σ) : BRel P σ ⟨k, 0, s⟩ (.cells (Blk.rep n vs) e) (some (.cells (madeCells (vs.map (V.re σ)).toArray n) e (0, 0))) := by
  subst hs
  refine ⟨_, ⟨_, fun _ => .inl rfl, rfl⟩, by simp [Blk.rep, size_madeCells], fun i hi => ?_⟩
  have hi' : i < n := hi
  have hl : 0 < vs.length := List.length_pos_iff.2 (hz.resolve_left (by omega))
  have hm : i % vs.length < vs.length := Nat.mod_lt _ hl
  have hg : (Blk.rep n vs).get i = vs[i % vs.length] := by simp [Blk.get, layGet, Blk.rep, Tr.get_nil, List.getD, List.getElem?_eq_getElem hm]
  rw [hg]
  refine ⟨hon _ (List.getElem_mem _), ?_⟩
  simp [madeCells, hi', hm]

def makeSliceV (P : Program) (t : TypeId) (l c : Int) (h : Heap) : Option (V × Heap) := match P.underlying t with
  | some (.slice e) => match P.info? e with
    | some i => match zeroV P e with
      | some z => if 0 ≤ l ∧ l ≤ c ∧ i.bytes * c.toNat ≤ 281474976710656 ∧ c ≤ 9223372036854775807 ∧ (Nat.beq (c.toNat * i.size) 0 = true ∨ Nat.blt 0 z.cellsV.length = true) then
          some (.slice (some (h.n, 0)) l.toNat c.toNat true, h.push (.cells (Blk.rep (c.toNat * i.size) z.cellsV) e)) else none
      | none => none
    | none => none
  | _ => none
theorem ok_makeSlice {t : TypeId} {x y : Operand} {k k' : IntKind} {l c : Int} {v : V} {h' : Heap} (ho : o.op = .makeSlice t x y) (hx : evV tm x = some (.int k l)) (hy : evV tm y = some (.int k' c)) (hv : makeSliceV P t l c h = some (v, h')) :
    PrimOk P tm o h ⟨v, h', [], []⟩ := by
  unfold makeSliceV at hv
  split at hv
  · rename_i e hu
    split at hv
    · rename_i i hi
      split at hv
      · rename_i z hz
        split at hv
        · rename_i hc
          obtain ⟨h0, hlc, hb, h63, hzz⟩ := hc
          cases hv
          refine PrimOk.make rfl fun H σ w ρ he hr hI hn => ?_
          have h1 := he x (by simp [ho, Op.operands]) _ hx
          have h2 := he y (by simp [ho, Op.operands]) _ hy
          have hz1 := run_zeroV hz w (σ.upd h.n ⟨w.heap.size, 0, 0⟩)
          have hzero : i.zero = some (z.re (σ.upd h.n ⟨w.heap.size, 0, 0⟩)) := by
            have := hz1.2
            unfold zeroV at hz
            simp only [hi] at hz
            split at hz
            · rename_i zz hzz
              rw [hzz, ((toV_both _).1 zz z hz _).2]
            · cases hz
          refine ⟨w, .cells (madeCells (z.re (σ.upd h.n ⟨w.heap.size, 0, 0⟩)).cells (c.toNat * i.size)) e, 0, rfl, rfl, rfl, rfl, ?_, on_new _ _ _, ?_⟩
          · rw [cellsV_re]
            exact brel_rep rfl (hzz.imp Nat.eq_of_beq_eq_true fun h => by have := Nat.blt_eq.mp h; intro e; simp [e] at this) (cellsV_on hz1.1)
          · have hb' : (i.bytes : Int) * c ≤ 281474976710656 := by
              have e1 : ((i.bytes * c.toNat : Nat) : Int) = (i.bytes : Int) * c := by rw [Int.natCast_mul, Int.toNat_of_nonneg (by omega)]
              rw [← e1]; omega
            have hm := run_make (P := P) w t e i _ hu hi hzero k k' l c h0 hlc hb' h63
            simp only [execOp, ho, h1.2, h2.2, V.re]
            rw [Sem.run_bind, hm]
            simp [reA_new]
        · cases hv
      · cases hv
    · cases hv
  · cases hv

def putL (l : List V) (off : Nat) : List V → List V
  | [] => l
  | v :: r => putL (l.set off v) (off + 1) r
theorem putL_on {σ : Ren} (vs : List V) (hvs : ∀ v ∈ vs, v.on σ) : ∀ (l : List V) (off : Nat), (∀ v ∈ l, v.on σ) → ∀ v ∈ putL l off vs, v.on σ := by
  induction vs with
  | nil => intro l off hl; exact hl
  | cons v r ih =>
    intro l off hl
    refine ih (fun u hu => hvs u (by simp [hu])) _ _ fun u hu => ?_
    rcases List.mem_or_eq_of_mem_set hu with hu | rfl
    · exact hl u hu
    · exact hvs _ (by simp)
theorem putL_re (σ : Ren) (vs : List V) : ∀ (l : List V) (off j : Nat),
    (List.zipIdx (vs.map (V.re σ)) j).foldl (fun (cs : Array Value) (x : Value × Nat) => cs.setIfInBounds (off + x.2) x.1) (l.map (V.re σ)).toArray = ((putL l (off + j) vs).map (V.re σ)).toArray := by
  induction vs with
  | nil => intro l off j; rfl
  | cons v r ih =>
    intro l off j
    simp only [List.map_cons, List.zipIdx_cons, List.foldl_cons, putL]
    have : ((l.map (V.re σ)).toArray.setIfInBounds (off + j) (v.re σ)) = ((l.set (off + j) v).map (V.re σ)).toArray := by simp [List.map_set]
    rw [this, ih, Nat.add_assoc]
def fillV (place : Nat → Option (Nat × Nat)) (cells : List V) : List (Nat × V) → Option (List V)
  | [] => some cells
  | (i, v) :: rest => match place i with
    | none => none
    | some (off, size) => if v.cellsV.length = size ∧ off + size ≤ cells.length then fillV place (putL cells off v.cellsV) rest else none
theorem fill_re {σ : Ren} {place : Nat → Option (Nat × Nat)} : ∀ (parts : List (Nat × V)) (cells r : List V), fillV place cells parts = some r → (∀ v ∈ cells, v.on σ) → (∀ p ∈ parts, p.2.on σ) →
    (∀ v ∈ r, v.on σ) ∧ Instr.fill place (cells.map (V.re σ)).toArray (parts.map fun p => (p.1, p.2.re σ)) = some (r.map (V.re σ)).toArray
  | [], cells, r, h, hc, _ => by cases h; exact ⟨hc, rfl⟩
  | (i, v) :: rest, cells, r, h, hc, hp => by
    simp only [fillV] at h
    split at h
    · cases h
    · rename_i off size hpl
      split at h
      · rename_i hh
        have hv := hp (i, v) (by simp)
        have := fill_re (σ := σ) rest _ r h (putL_on _ (cellsV_on hv) _ _ hc) (fun p hpp => hp p (by simp [hpp]))
        refine ⟨this.1, ?_⟩
        simp only [List.map_cons, Instr.fill, hpl, cellsV_re]
        rw [if_neg (by simp [hh.1]; omega), ← this.2]
        congr 1
        have := putL_re σ v.cellsV cells off 0
        simp only [Nat.add_zero] at this
        rw [← this, ← Array.foldl_toList]
        simp
      · cases h

def evParts (tm : Tm) : List (Nat × Operand) → Option (List (Nat × V))
  | [] => some []
  | (i, x) :: r => match evV tm x with
    | some v => match evParts tm r with
      | some vs => some ((i, v) :: vs)
      | none => none
    | none => none
theorem evParts_rel {σ : Ren} {tm : Tm} {ρ : Operand → Value} : ∀ (l : List (Nat × Operand)) (vs : List (Nat × V)), (∀ x ∈ l.map (·.2), ∀ v, evV tm x = some v → VRel σ v (ρ x)) → evParts tm l = some vs →
    (∀ p ∈ vs, p.2.on σ) ∧ l.map (fun p => (p.1, ρ p.2)) = vs.map fun p => (p.1, p.2.re σ)
  | [], vs, _, h => by cases h; exact ⟨by simp, rfl⟩
  | (i, x) :: r, vs, he, h => by
    unfold evParts at h
    split at h
    · rename_i v hv
      split at h
      · rename_i us hus; cases h
        have h1 := he x (by simp) v hv
        have h2 := evParts_rel r us (fun y hy => he y (by simp at hy ⊢; exact .inr hy)) hus
        refine ⟨fun p hp => ?_, by simp [h1.2, h2.2]⟩
        rcases List.mem_cons.1 hp with rfl | hp
        · exact h1.1
        · exact h2.1 p hp
      · cases h
    · cases h

def builtV (P : Program) (t : TypeId) (parts : List (Nat × V)) : Option (List V) := match zeroV P t with
  | some z => match P.underlying t with
    | some (.array _ e) => match P.info? e with
      | some ie => fillV (fun i => some (i * ie.size, ie.size)) z.cellsV parts
      | none => none
    | some (.struct fields) => match fields.toList.mapM (fun f => (P.info? f.type).map fun i => (f.offset, i.size)) with
      | some places => fillV (places.toArray[·]?) z.cellsV parts
      | none => none
    | _ => none
  | none => none
theorem built_re {σ : Ren} {t : TypeId} {parts : List (Nat × V)} {r : List V} (h : builtV P t parts = some r) (hp : ∀ p ∈ parts, p.2.on σ) :
    (∀ v ∈ r, v.on σ) ∧ P.built t (parts.map fun p => (p.1, p.2.re σ)) = some (r.map (V.re σ)).toArray := by
  unfold builtV at h
  split at h
  · rename_i z hz
    have hz1 := run_zeroV hz default σ
    unfold zeroV at hz
    split at hz
    · rename_i it hit
      split at hz
      · rename_i zz hzz
        have hzz' : it.zero = some (z.re σ) := by rw [hzz, ((toV_both _).1 zz z hz σ).2]
        split at h
        · rename_i n e hu
          split at h
          · rename_i ie hie
            have := fill_re (σ := σ) parts _ r h (cellsV_on hz1.1) hp
            refine ⟨this.1, ?_⟩
            simp only [Program.built, hit, hu, hzz', hie, cellsV_re]
            exact this.2
          · cases h
        · rename_i fields hu
          split at h
          · rename_i places hpl
            have := fill_re (σ := σ) parts _ r h (cellsV_on hz1.1) hp
            refine ⟨this.1, ?_⟩
            simp only [Program.built, hit, hu, hzz', hpl, cellsV_re]
            exact this.2
          · cases h
        · cases h
      · cases hz
    · cases hz
  · cases h

theorem mem_parts {parts : Array (Nat × Operand)} {x : Operand} (hx : x ∈ parts.toList.map (·.2)) (t : TypeId) (n : Nat) : x ∈ (Op.build t parts).operands ∧ x ∈ (Op.buildSlice t n parts).operands := by
  simp only [Op.operands, List.mem_toArray]; exact ⟨hx, hx⟩
theorem parts_map {parts : Array (Nat × Operand)} {ρ : Operand → Value} : (parts.map fun (i, x) => (i, ρ x)) = (parts.toList.map fun p => (p.1, ρ p.2)).toArray := by
  apply Array.ext'; simp

theorem ok_build {t : TypeId} {parts : Array (Nat × Operand)} {ps : List (Nat × V)} {r : List V} (ho : o.op = .build t parts) (hp : evParts tm parts.toList = some ps) (hb : builtV P t ps = some r) : PrimOk P tm o h ⟨.agg r, h, [], []⟩ :=
  PrimOk.pure fun σ w ρ he => by
    have h1 := evParts_rel (ρ := ρ) parts.toList ps (fun x hx => he x (by rw [ho]; exact (mem_parts hx t 0).1)) hp
    have h2 := built_re hb h1.1
    refine ⟨(V.onL_iff _ _).2 h2.1, ?_⟩
    simp only [execOp, ho, parts_map, h1.2]
    rw [Sem.run_bind, run_build w t _ _ h2.2]
    simp [V.re, V.reL_eq]

def repL (z : List V) : Nat → Nat → List V
  | _, 0 => []
  | i, n + 1 => z.getD (i % z.length) undefV :: repL z (i + 1) n
theorem length_repL (z : List V) (n : Nat) : ∀ i, (repL z i n).length = n := by
  induction n with
  | zero => intro i; rfl
  | succ n ih => intro i; simp [repL, ih]
theorem repL_get (z : List V) (n : Nat) : ∀ i j, j < n → (repL z i n)[j]? = some (z.getD ((i + j) % z.length) undefV) := by
  induction n with
  | zero => intro i j h; omega
  | succ n ih =>
    intro i j h
    cases j with
    | zero => simp [repL]
    | succ j => simp only [repL, List.getElem?_cons_succ]; rw [ih (i + 1) j (by omega), show i + 1 + j = i + (j + 1) by omega]
theorem repL_re (σ : Ren) (z : List V) (n : Nat) (hz : n = 0 ∨ 0 < z.length) : ((repL z 0 n).map (V.re σ)).toArray = (Array.range n).map ((z.map (V.re σ)).toArray[· % (z.map (V.re σ)).toArray.size]!) := by
  apply Array.ext'
  apply List.ext_getElem?
  intro j
  by_cases hj : j < n
  · have hl : 0 < z.length := hz.resolve_left (by omega)
    have hm : j % z.length < z.length := Nat.mod_lt _ hl
    simp [repL_get z n 0 j hj, hj, hm, List.getD]
  · rw [List.getElem?_eq_none (by simp [length_repL]; omega), List.getElem?_eq_none (by simp; omega)]
theorem repL_on {σ : Ren} {z : List V} (hz : ∀ v ∈ z, v.on σ) (n : Nat) : ∀ i, ∀ v ∈ repL z i n, v.on σ := by
  induction n with
  | zero => intro i v hv; simp [repL] at hv
  | succ n ih =>
    intro i v hv
    simp only [repL, List.mem_cons] at hv
    rcases hv with rfl | hv
    · by_cases hl : 0 < z.length
      · have hm : i % z.length < z.length := Nat.mod_lt _ hl
        simp only [List.getD, List.getElem?_eq_getElem hm, Option.getD_some]
        exact hz _ (List.getElem_mem _)
      · have : z = [] := List.length_eq_zero_iff.1 (by omega)
        subst this; exact undefV_on _
    · exact ih _ v hv

def builtSliceV (P : Program) (t : TypeId) (len : Nat) (parts : List (Nat × V)) : Option (TypeId × List V) := match P.underlying t with
  | some (.slice e) => match szV P e with
    | some size => match zeroV P e with
      | some z => if len * size ≤ 16777216 ∧ (len * size = 0 ∨ 0 < z.cellsV.length) then
          match fillV (fun i => some (i * size, size)) (repL z.cellsV 0 (len * size)) parts with
          | some r => some (e, r)
          | none => none
        else none
      | none => none
    | none => none
  | _ => none
theorem ok_buildSlice {t e : TypeId} {len : Nat} {parts : Array (Nat × Operand)} {ps : List (Nat × V)} {r : List V} (ho : o.op = .buildSlice t len parts) (hp : evParts tm parts.toList = some ps) (hb : builtSliceV P t len ps = some (e, r)) :
    PrimOk P tm o h ⟨.slice (some (h.n, 0)) len len true, h.push (.cells (Blk.of r) e), [], []⟩ := by
  unfold builtSliceV at hb
  split at hb
  · rename_i e' hu
    split at hb
    · rename_i size hs
      split at hb
      · rename_i z hz
        split at hb
        · rename_i hc
          split at hb
          · rename_i r' hf
            cases hb
            refine PrimOk.make rfl fun H σ w ρ he hr hI hn => ?_
            have hle := Ren.le_upd hn ⟨w.heap.size, 0, 0⟩
            have h1 := evParts_rel (ρ := ρ) parts.toList ps (fun x hx => he x (by rw [ho]; exact (mem_parts hx t len).2)) hp
            have hps : ps.map (fun p => (p.1, p.2.re σ)) = ps.map fun p => (p.1, p.2.re (σ.upd h.n ⟨w.heap.size, 0, 0⟩)) := List.map_congr_left fun p hpp => by rw [(V.on_le hle _ (h1.1 p hpp)).2]
            have hz1 := run_zeroV hz w (σ.upd h.n ⟨w.heap.size, 0, 0⟩)
            have h2 := fill_re (σ := σ.upd h.n ⟨w.heap.size, 0, 0⟩) ps _ r hf (repL_on (cellsV_on hz1.1) _ _) (fun p hpp => (V.on_le hle _ (h1.1 p hpp)).1)
            refine ⟨w, .cells (r.map (V.re (σ.upd h.n ⟨w.heap.size, 0, 0⟩))).toArray e, 0, rfl, rfl, rfl, rfl, brel_of rfl h2.1, on_new _ _ _, ?_⟩
            rw [repL_re _ _ _ hc.2] at h2
            simp only [execOp, ho, parts_map, h1.2, hps]
            have hbig : ¬ 16777216 < len * size := by omega
            have h22 := h2.2
            have e0 : ∀ f : Nat → Value, Array.map f (Array.range 0) = #[] := fun f => by simp
            by_cases h0 : len * size = 0
            · rw [h0, e0] at h22
              simp only [Instr.buildSlice, newRow, newObj]
              simp only [Sem.run_bind, run_underlying hu, run_szV hs, Result.andThen_ok, h0]
              rw [if_neg (by decide), if_pos trivial]
              simp only [Sem.run_bind, Sem.run_pure, Result.andThen_ok, e0, h22]
              simp [V.re, reA_new, Sem.run]
            · simp only [Instr.buildSlice, newRow, newObj]
              simp only [Sem.run_bind, run_underlying hu, run_szV hs, Result.andThen_ok]
              rw [if_neg (show ¬ len * size > 2 ^ 24 from hbig), if_neg h0]
              simp only [Sem.run_bind, Sem.run_pure, Result.andThen_ok, hz1.2, cellsV_re, h22]
              simp [V.re, reA_new, Sem.run]
          · cases hb
        · cases hb
      · cases hb
    · cases hb
  · cases hb

def partV (P : Program) (t : TypeId) (c : List V) (off : Nat) : Option V := match aggV P t with
  | some true => match szV P t with
    | some n => some (.agg ((c.drop off).take n))
    | none => none
  | some false => c[off]?
  | none => none
theorem part_re {σ : Ren} {t : TypeId} {c : List V} {off : Nat} {v : V} (hv : partV P t c off = some v) (hc : ∀ u ∈ c, u.on σ) (w : World) : v.on σ ∧ (part t (V.reL σ c).toArray off).run P w = .ok (v.re σ) w := by
  unfold partV at hv
  split at hv
  · rename_i ha
    split at hv
    · rename_i n hn
      cases hv
      refine ⟨(V.onL_iff _ _).2 fun u hu => hc u (List.mem_of_mem_drop (List.mem_of_mem_take hu)), ?_⟩
      simp [part, run_aggV ha, run_szV hn, V.re, V.reL_eq, List.map_drop, List.map_take]
    · cases hv
  · rename_i ha
    refine ⟨hc v (List.mem_of_getElem? hv), ?_⟩
    simp [part, run_aggV ha, V.reL_eq, hv]
  · cases hv
def fieldV (P : Program) (t : TypeId) (c : List V) (f : Nat) : Option V := match P.underlying t with
  | some (.struct fs) => match fs[f]? with
    | some fl => partV P fl.type c fl.offset
    | none => none
  | _ => none
theorem ok_field {t : TypeId} {x : Operand} {f : Nat} {c : List V} {v : V} (ho : o.op = .field t x f) (hx : evV tm x = some (.agg c)) (hv : fieldV P t c f = some v) : PrimOk P tm o h ⟨v, h, [], []⟩ :=
  PrimOk.pure fun σ w ρ he => by
    have h1 := he x (by simp [ho, Op.operands]) _ hx
    unfold fieldV at hv
    split at hv
    · rename_i fs hu
      split at hv
      · rename_i fl hfl
        have h2 := part_re hv ((V.onL_iff _ _).1 (show V.onL σ c from h1.1)) w
        refine ⟨h2.1, ?_⟩
        simp only [execOp, ho, h1.2, V.re, Instr.field]
        simp [run_underlying hu, hfl, asAgg, h2.2]
      · cases hv
    · cases hv
def indexV (P : Program) (t : TypeId) (x : V) (i : Int) : Option V := match P.underlying t, x with
  | some (.array n e), .agg c => if 0 ≤ i ∧ i < n then match szV P e with
      | some s => partV P e c (i.toNat * s)
      | none => none
    else none
  | some .string, .str s => if 0 ≤ i then match s[i.toNat]? with
      | some b => some (.int .u8 b.toNat)
      | none => none
    else none
  | _, _ => none
theorem ok_index {t : TypeId} {x y : Operand} {k : IntKind} {i : Int} {vx v : V} (ho : o.op = .index t x y) (hx : evV tm x = some vx) (hy : evV tm y = some (.int k i)) (hv : indexV P t vx i = some v) : PrimOk P tm o h ⟨v, h, [], []⟩ :=
  PrimOk.pure fun σ w ρ he => by
    have h1 := he x (by simp [ho, Op.operands]) _ hx
    have h2 := he y (by simp [ho, Op.operands]) _ hy
    unfold indexV at hv
    split at hv
    · rename_i n e c hu
      split at hv
      · rename_i hc
        split at hv
        · rename_i s hs
          have h3 := part_re hv ((V.onL_iff _ _).1 (show V.onL σ c from h1.1)) w
          refine ⟨h3.1, ?_⟩
          simp only [execOp, ho, h1.2, h2.2, V.re, Instr.index]
          simp [run_underlying hu, asIntOf, hc, run_szV hs, h3.2]
        · cases hv
      · cases hv
    · rename_i s hu
      split at hv
      · rename_i hc
        split at hv
        · rename_i b hb
          cases hv
          refine ⟨trivial, ?_⟩
          simp only [execOp, ho, h1.2, h2.2, V.re, Instr.index]
          simp [run_underlying hu, asIntOf, hc, hb]
        · cases hv
      · cases hv
    · cases hv

end Go.Vm
set_option linter.unusedVariables false
set_option linter.unusedSimpArgs false
namespace Go.Vm
variable {P : Program}

def eqFs (P : Program) (g : TypeId → V → V → Option Bool) (xs ys : List V) : List Field → Option Bool
  | [] => some true
  | f :: fs => match decide (f.name = "_") with
    | true => eqFs P g xs ys fs
    | false => match partV P f.type xs f.offset, partV P f.type ys f.offset with
      | some a, some b => match g f.type a b with
        | some true => eqFs P g xs ys fs
        | some false => some false
        | none => none
      | _, _ => none
def eqIs (P : Program) (g : V → V → Option Bool) (e : TypeId) (k : Nat) (xs ys : List V) : List Nat → Option Bool
  | [] => some true
  | i :: is => match partV P e xs (i * k), partV P e ys (i * k) with
    | some a, some b => match g a b with
      | some true => eqIs P g e k xs ys is
      | some false => some false
      | none => none
    | _, _ => none
def eqD (P : Program) : Nat → TypeId → V → V → Option Bool
  | 0, _, _, _ => none
  | d + 1, t, x, y => match x, y with
    | .agg xs, .agg ys => match P.underlying t with
      | some (.struct fs) => match P.stoodInHeld t with
        | true => none
        | false => eqFs P (eqD P d) xs ys fs.toList
      | some (.array n e) => match P.info? e with
        | some _ => eqIs P (eqD P d e) e (P.cellsOf e) xs ys (List.range n)
        | none => none
      | _ => none
    | .int k a, .int k' b => match P.underlying t with
      | some (.int _) => if k = k' then some (a == b) else none
      | _ => none
    | .str a, .str b => match P.underlying t with
      | some .string => some (eqB a.data.toList b.data.toList)
      | _ => none
    | x, y => eqSmall P t x y

theorem eqFs_sound {g : TypeId → V → V → Option Bool} {D : Nat} {σ : Ren} {xs ys : List V} (hx : V.onL σ xs) (hy : V.onL σ ys)
    (hg : ∀ t x y b, x.on σ → y.on σ → g t x y = some b → ∀ w, (Op.equalIn D t (x.re σ) (y.re σ)).run P w = .ok b w) : ∀ (fs : List Field) (b : Bool), eqFs P g xs ys fs = some b → ∀ w, (Op.eqFields D (V.reL σ xs).toArray (V.reL σ ys).toArray fs).run P w = .ok b w
  | [], b, h, w => by cases h; simp [Op.eqFields]
  | f :: fs, b, h, w => by
    unfold eqFs at h
    unfold Op.eqFields
    split at h
    · rename_i hn
      have hn : f.name = "_" := by simpa using hn
      rw [if_neg (by simp [hn])]
      exact eqFs_sound hx hy hg fs b h w
    · rename_i hn
      have hn : f.name ≠ "_" := by simpa using hn
      rw [if_pos hn]
      split at h
      · rename_i a c ha hc
        have pa := part_re ha ((V.onL_iff _ _).1 hx) w
        have pc := part_re hc ((V.onL_iff _ _).1 hy) w
        simp only [Sem.run_bind, pa.2, Result.andThen_ok, pc.2]
        split at h
        · rename_i hq
          rw [hg _ _ _ _ pa.1 pc.1 hq w]
          simp only [Result.andThen_ok, Bool.not_true, Bool.false_eq_true, if_false]
          exact eqFs_sound hx hy hg fs b h w
        · rename_i hq
          cases h
          rw [hg _ _ _ _ pa.1 pc.1 hq w]
          simp
        · cases h
      · cases h
theorem eqIs_sound {g : V → V → Option Bool} {D : Nat} {σ : Ren} {e : TypeId} {k : Nat} {xs ys : List V} (hx : V.onL σ xs) (hy : V.onL σ ys)
    (hg : ∀ x y b, x.on σ → y.on σ → g x y = some b → ∀ w, (Op.equalIn D e (x.re σ) (y.re σ)).run P w = .ok b w) : ∀ (is : List Nat) (b : Bool), eqIs P g e k xs ys is = some b → ∀ w, (Op.eqItems D e k (V.reL σ xs).toArray (V.reL σ ys).toArray is).run P w = .ok b w
  | [], b, h, w => by cases h; simp [Op.eqItems]
  | i :: is, b, h, w => by
    unfold eqIs at h
    unfold Op.eqItems
    split at h
    · rename_i a c ha hc
      have pa := part_re ha ((V.onL_iff _ _).1 hx) w
      have pc := part_re hc ((V.onL_iff _ _).1 hy) w
      simp only [Sem.run_bind, pa.2, Result.andThen_ok, pc.2]
      split at h
      · rename_i hq
        rw [hg _ _ _ pa.1 pc.1 hq w]
        simp only [Result.andThen_ok, Bool.not_true, Bool.false_eq_true, if_false]
        exact eqIs_sound hx hy hg is b h w
      · rename_i hq
        cases h
        rw [hg _ _ _ pa.1 pc.1 hq w]
        simp
      · cases h
    · cases h

theorem eqD_sound : ∀ (d : Nat) (t : TypeId) (x y : V) (b : Bool), eqD P d t x y = some b → ∀ (D : Nat) (σ : Ren) (w : World), d ≤ D → x.on σ → y.on σ → (Op.equalIn D t (x.re σ) (y.re σ)).run P w = .ok b w
  | 0, t, x, y, b, h => by simp [eqD] at h
  | d + 1, t, x, y, b, h => by
    intro D σ w hD hx hy
    obtain ⟨D, rfl⟩ : ∃ D', D = D' + 1 := ⟨D - 1, by omega⟩
    have hD' : d ≤ D := by omega
    unfold eqD at h
    split at h
    · rename_i xs ys
      have hx' : V.onL σ xs := hx
      have hy' : V.onL σ ys := hy
      simp only [V.re]
      split at h
      · rename_i fs hu
        split at h
        · cases h
        · rename_i hst
          have hf : P.fieldsOf t = fs := by simp [Program.fieldsOf, hu]
          rw [run_equalIn_struct w D t _ _ (by rw [hf]; exact hu) hst, hf]
          exact eqFs_sound hx' hy' (fun t x y b h1 h2 hq w => eqD_sound d t x y b hq D σ w hD' h1 h2) _ b h w
      · rename_i n e hu
        split at h
        · rename_i i hi
          rw [run_equalIn_array w D _ _ hu hi]
          exact eqIs_sound hx' hy' (fun x y b h1 h2 hq w => eqD_sound d e x y b hq D σ w hD' h1 h2) _ b h w
        · cases h
      · cases h
    · split at h
      · rename_i hu
        split at h
        · rename_i e; subst e; cases h; simp only [V.re]; exact run_equalIn_int w D t _ _ _ _ hu
        · cases h
      · cases h
    · split at h
      · rename_i hu; cases h; rw [eqB_bytes]; simp only [V.re]; exact run_equalIn_string w D t _ _ hu
      · cases h
    · exact eqSmall_in h w σ D

def binA (P : Program) (op : BinOp) (t : TypeId) (x y : V) : Option V := match x, y with
  | .agg _, .agg _ => match P.eqGuardType P.depth t with
    | true => none
    | false => match op with
      | .eql => match eqD P 10 t x y with
        | some b => some (.bool b)
        | none => none
      | .neq => match eqD P 10 t x y with
        | some b => some (.bool (!b))
        | none => none
      | _ => none
  | _, _ => none
theorem binA_sound {op : BinOp} {t : TypeId} {x y : V} {v : V} (h : binA P op t x y = some v) (ox oy : Operand) (w : World) (σ : Ren) (hx : x.on σ) (hy : y.on σ) :
    ((do eqGuard op t ox oy (x.re σ) (y.re σ); binOp op t (x.re σ) (y.re σ)) : Sem Value).run P w = .ok (v.re σ) w ∧ v.on σ := by
  unfold binA at h
  split at h
  · rename_i xs ys
    split at h
    · cases h
    · rename_i hg
      have e1 : ∀ (w : World), (eqGuard op t ox oy ((V.agg xs).re σ) ((V.agg ys).re σ)).run P w = .ok () w := fun w => by
        simp only [V.re]; exact run_eqGuard_agg w op t ox oy _ _ hg
      simp only [Sem.run_bind, e1, Result.andThen_ok]
      split at h
      · split at h
        · rename_i b hb
          cases h
          refine ⟨?_, trivial⟩
          have := eqD_sound _ _ _ _ _ hb 10000 σ w (by omega) hx hy
          simp only [V.re] at this ⊢
          rw [run_eql_struct, this]; rfl
        · cases h
      · split at h
        · rename_i b hb
          cases h
          refine ⟨?_, trivial⟩
          have := eqD_sound _ _ _ _ _ hb 10000 σ w (by omega) hx hy
          simp only [V.re] at this ⊢
          rw [run_neq_struct, this]; rfl
        · cases h
      · cases h
  · cases h
variable {tm : Tm} {o : Oper} {h : Heap}
theorem ok_binA {op : BinOp} {t t' : TypeId} {x y : Operand} {vx vy v : V} (ho : o.op = .binOp op t x y t') (hx : evV tm x = some vx) (hy : evV tm y = some vy) (hv : binA P op t vx vy = some v) : PrimOk P tm o h ⟨v, h, [], []⟩ :=
  PrimOk.pure fun σ w ρ he => by
    have h1 := he x (by simp [ho, Op.operands]) _ hx
    have h2 := he y (by simp [ho, Op.operands]) _ hy
    have h3 := binA_sound hv x y w σ h1.1 h2.1
    refine ⟨h3.2, ?_⟩
    simp only [execOp, ho, h1.2, h2.2, Sem.run_bind] at h3 ⊢
    rw [h3.1]
    rfl
end Go.Vm
set_option linter.unusedVariables false
set_option linter.unusedSimpArgs false
namespace Go.Vm
variable {P : Program} {tm : Tm} {o : Oper} {h : Heap}

def boundsV (len cap : Nat) (lo hi mx : Option Int) : Option (Nat × Nat × Nat) :=
  match (match mx with
    | some i => if 0 ≤ i ∧ i ≤ cap then some i.toNat else none
    | none => some cap) with
  | none => none
  | some m => match (match hi with
      | some i => if 0 ≤ i ∧ i ≤ m then some i.toNat else none
      | none => match mx with
        | none => some len
        | some _ => none) with
    | none => none
    | some hh => match (match lo with
        | some i => if 0 ≤ i ∧ i ≤ hh then some i.toNat else none
        | none => some 0) with
      | none => none
      | some l => some (l, hh, m)
theorem run_bounds {len cap l hh m : Nat} {lo hi mx : Option (IntKind × Int)} (hb : boundsV len cap (lo.map (·.2)) (hi.map (·.2)) (mx.map (·.2)) = some (l, hh, m)) (isS : Bool) (w : World) :
    (Instr.sliceBounds isS len cap (lo.map fun x => .int x.1 x.2) (hi.map fun x => .int x.1 x.2) (mx.map fun x => .int x.1 x.2)).run P w = .ok (l, hh, m) w := by
  unfold boundsV at hb
  split at hb
  · cases hb
  · rename_i m' hm
    split at hb
    · cases hb
    · rename_i h' hh'
      split at hb
      · cases hb
      · rename_i l' hl
        cases hb
        unfold Instr.sliceBounds
        rcases mx with _ | ⟨mk, mi⟩ <;> rcases hi with _ | ⟨hk, hi⟩ <;> rcases lo with _ | ⟨lk, li⟩ <;> simp only [Option.map_none, Option.map_some] at hm hh' hl ⊢ <;> (try (cases hh'; done)) <;>
          (repeat' (split at hm <;> try (cases hm; done))) <;> (repeat' (split at hh' <;> try (cases hh'; done))) <;> (repeat' (split at hl <;> try (cases hl; done))) <;>
          simp_all [Instr.sliceBound, asIntOf]
theorem bounds_more {len cap l hh m : Nat} {lo hi : Option Int} (hb : boundsV len cap lo hi none = some (l, hh, m)) (s : Nat) : m = cap ∧ boundsV len (cap + s) lo hi none = some (l, hh, cap + s) := by
  unfold boundsV at hb ⊢
  simp only at hb ⊢
  rcases hi with _ | i
  · simp only at hb ⊢
    split at hb
    · cases hb
    · rename_i l' hl; cases hb; exact ⟨rfl, by simp [hl]⟩
  · simp only at hb ⊢
    by_cases hc : 0 ≤ i ∧ i ≤ (cap : Int)
    · rw [if_pos hc] at hb; rw [if_pos (by omega)]
      simp only at hb ⊢
      split at hb
      · cases hb
      · rename_i l' hl; cases hb; exact ⟨rfl, by simp [hl]⟩
    · rw [if_neg hc] at hb; cases hb
theorem bounds_le {len cap l hh m : Nat} {lo hi mx : Option Int} (hb : boundsV len cap lo hi mx = some (l, hh, m)) (hlc : len ≤ cap) : l ≤ hh ∧ hh ≤ m ∧ m ≤ cap := by
  unfold boundsV at hb
  split at hb
  · cases hb
  · rename_i m' hm
    split at hb
    · cases hb
    · rename_i h' hh'
      split at hb
      · cases hb
      · rename_i l' hl
        cases hb
        have a1 : m ≤ cap := by
          rcases mx with _ | mi <;> simp only at hm
          · cases hm; exact Nat.le_refl _
          · split at hm <;> cases hm; omega
        have a2 : hh ≤ m := by
          rcases hi with _ | x <;> simp only at hh'
          · rcases mx with _ | mi <;> simp only at hh' hm
            · cases hh'; cases hm; exact hlc
            · cases hh'
          · split at hh' <;> cases hh'; omega
        have a3 : l ≤ hh := by
          rcases lo with _ | x <;> simp only at hl
          · cases hl; omega
          · split at hl <;> cases hl; omega
        exact ⟨a3, a2, a1⟩

def evI (tm : Tm) : Option Operand → Option (Option (IntKind × Int))
  | none => some none
  | some x => match evV tm x with
    | some (.int k i) => some (some (k, i))
    | _ => none
theorem evI_rel {σ : Ren} {tm : Tm} {ρ : Operand → Value} {x : Option Operand} {r : Option (IntKind × Int)} (h : evI tm x = some r) (he : ∀ y, x = some y → ∀ v, evV tm y = some v → VRel σ v (ρ y)) :
    x.map ρ = r.map fun p => .int p.1 p.2 := by
  cases x with
  | none => cases h; rfl
  | some y =>
    unfold evI at h
    simp only at h
    split at h
    · rename_i k i hv; cases h
      simp [(he y rfl _ hv).2, V.re]
    · cases h

def sliceV (P : Program) (t : TypeId) (x : V) (lo hi mx : Option Int) : Option V := match P.underlying t with
  | some (.array n e) => match x with
    | .ptr (some (b, off)) => match szV P e with
      | some sz => match boundsV n n lo hi mx with
        | some (l, hh, m) => some (.slice (some (b, match Nat.beq m l with | true => off | false => off + l * sz)) (hh - l) (m - l) true)
        | none => none
      | none => none
    | _ => none
  | some .string => match x, mx with
    | .str s, none => match boundsV s.size s.size lo hi none with
      | some (l, hh, _) => some (.str (s.extract l hh))
      | none => none
    | _, _ => none
  | some (.slice e) => match szV P e with
    | some sz => match x with
      | .slice none len cap _ => match boundsV len cap lo hi mx with
        | some (l, hh, m) => some (.slice none (hh - l) (m - l) true)
        | none => none
      | .slice (some (b, off)) len cap ex => match boundsV len cap lo hi mx with
        | some (l, hh, m) => match ex, mx with
          | false, none => if len ≤ cap ∧ (Nat.blt l m = true ∨ l = 0) then some (.slice (some (b, off + l * sz)) (hh - l) (m - l) false) else if len = cap ∧ l = len then some (.eop (b, off) (l * sz)) else none
          | _, _ => some (.slice (some (b, match Nat.beq m l with | true => off | false => off + l * sz)) (hh - l) (m - l) true)
        | none => none
      | .esl a => match boundsV 0 0 lo hi mx with
        | some (l, hh, m) => some (.esl a)
        | none => none
      | _ => none
    | none => none
  | _ => none

theorem bounds_cap {len cap l hh m : Nat} {lo hi : Option Int} {mi : Int} (hb : boundsV len cap lo hi (some mi) = some (l, hh, m)) (s : Nat) : boundsV len (cap + s) lo hi (some mi) = some (l, hh, m) := by
  unfold boundsV at hb ⊢
  simp only at hb ⊢
  by_cases hc : 0 ≤ mi ∧ mi ≤ (cap : Int)
  · rw [if_pos hc] at hb; rw [if_pos (by omega)]; exact hb
  · rw [if_neg hc] at hb; cases hb

theorem ok_slice {t : TypeId} {x : Operand} {lo hi mx : Option Operand} {rl rh rm : Option (IntKind × Int)} {vx v : V} (ho : o.op = .slice t x lo hi mx) (hx : evV tm x = some vx) (hl : evI tm lo = some rl) (hh : evI tm hi = some rh) (hm : evI tm mx = some rm)
    (hv : sliceV P t vx (rl.map (·.2)) (rh.map (·.2)) (rm.map (·.2)) = some v) : PrimOk P tm o h ⟨v, h, [], []⟩ :=
  PrimOk.pure fun σ w ρ he => by
    have h1 := he x (by simp [ho, Op.operands]) _ hx
    have el := evI_rel (ρ := ρ) hl fun y hy => he y (by subst hy; simp [ho, Op.operands])
    have eh := evI_rel (ρ := ρ) hh fun y hy => he y (by subst hy; simp [ho, Op.operands])
    have em := evI_rel (ρ := ρ) hm fun y hy => he y (by subst hy; simp [ho, Op.operands])
    have goal : ∀ v', (Instr.sliceAt t (vx.re σ) (rl.map fun p => .int p.1 p.2) (rh.map fun p => .int p.1 p.2) (rm.map fun p => .int p.1 p.2)).run P w = .ok v' w → (execOp ρ o).run P w = .ok (.value v') w := fun v' hr => by
      simp only [execOp, ho, h1.2, el, eh, em]
      rw [Sem.run_bind, hr]; rfl
    unfold sliceV at hv
    split at hv
    · rename_i n e hu
      split at hv
      · rename_i b off
        split at hv
        · rename_i sz hsz
          split at hv
          · rename_i l hh' m hb
            cases hv
            refine ⟨show σ.is b from h1.1, goal _ ?_⟩
            have hr := run_bounds (P := P) hb false w
            simp only [Instr.sliceAt]
            simp only [Sem.run_bind, run_underlying hu, Result.andThen_ok, V.re, Option.map_some, Instr.sureAddr, Sem.run_pure, hr, run_szV hsz]
            cases hq : Nat.beq m l with
            | true => have := Nat.eq_of_beq_eq_true hq; simp [this]
            | false => have : m ≠ l := fun e => by subst e; simp at hq
                       simp [this, addr_add]
          · cases hv
        · cases hv
      · cases hv
    · rename_i hu
      split at hv
      · rename_i s hmx
        split at hv
        · rename_i l hh' m hb
          cases hv
          refine ⟨trivial, goal _ ?_⟩
          have hmx' : rm = none := by cases rm with | none => rfl | some _ => cases hmx
          subst hmx'
          have hr := run_bounds (P := P) (lo := rl) (hi := rh) (mx := none) hb false w
          simp only [Option.map_none] at hr
          simp only [Instr.sliceAt, Instr.slice]
          simp [run_underlying hu, V.re, hr]
        · cases hv
      · cases hv
    · rename_i e hu
      split at hv
      · rename_i sz hsz
        split at hv
        · rename_i len cap ex
          split at hv
          · rename_i l hh' m hb
            cases hv
            refine ⟨trivial, goal _ ?_⟩
            have hr := run_bounds (P := P) hb true w
            simp only [Instr.sliceAt, Instr.slice]
            simp [run_underlying hu, V.re, hr, run_szV hsz]
          · cases hv
        · rename_i b off len cap ex
          split at hv
          · rename_i l hh' m hb
            split at hv
            · rename_i hmx
              split at hv
              · rename_i hc
                cases hv
                refine ⟨show σ.is b from h1.1, goal _ ?_⟩
                have hmx' : rm = none := by cases rm with | none => rfl | some _ => cases hmx
                subst hmx'
                obtain ⟨hm1, hb2⟩ := bounds_more hb (σ.k b)
                have hr := run_bounds (P := P) (lo := rl) (hi := rh) (mx := none) hb2 true w
                simp only [Option.map_none] at hr
                have hle := bounds_le hb hc.1
                simp only [Instr.sliceAt, Instr.slice]
                simp only [Sem.run_bind, run_underlying hu, Result.andThen_ok, V.re, Bool.false_eq_true, if_false, Option.map_none, hr, run_szV hsz, Sem.run_pure]
                have hsub : cap + σ.k b - l = m - l + σ.k b := by omega
                rw [hsub]
                by_cases hq : cap + σ.k b = l
                · have hl0 : l = 0 := by rcases hc.2 with h | h
                                         · have := Nat.blt_eq.mp h; omega
                                         · exact h
                  rw [if_pos hq]; simp [hl0]
                · rw [if_neg hq]; simp [addr_add]
              · split at hv
                · rename_i hc
                  cases hv
                  refine ⟨show σ.is b from h1.1, goal _ ?_⟩
                  have hmx' : rm = none := by cases rm with | none => rfl | some _ => cases hmx
                  subst hmx'
                  obtain ⟨hm1, hb2⟩ := bounds_more hb (σ.k b)
                  have hr := run_bounds (P := P) (lo := rl) (hi := rh) (mx := none) hb2 true w
                  simp only [Option.map_none] at hr
                  have hle := bounds_le hb (Nat.le_of_eq hc.1)
                  simp only [Instr.sliceAt, Instr.slice]
                  simp only [Sem.run_bind, run_underlying hu, Result.andThen_ok, V.re, Bool.false_eq_true, if_false, Option.map_none, hr, run_szV hsz, Sem.run_pure]
                  have hsub : cap + σ.k b - l = σ.k b := by omega
                  have hh0 : hh' - l = 0 := by omega
                  rw [hsub, hh0]
                  by_cases hq : σ.k b = 0
                  · rw [if_pos (by omega), if_pos hq]
                  · rw [if_neg (by omega), if_neg hq]; simp [addr_add]
                · cases hv
            · rename_i ex _ _ hne
              cases hv
              refine ⟨show σ.is b from h1.1, goal _ ?_⟩
              have hr : (Instr.sliceBounds true len (if ex then cap else cap + σ.k b) (rl.map fun x => .int x.1 x.2) (rh.map fun x => .int x.1 x.2) (rm.map fun x => .int x.1 x.2)).run P w = .ok (l, hh', m) w := by
                cases ex with
                | true => exact run_bounds (P := P) hb true w
                | false =>
                  cases rm with
                  | none => exact (hne rfl rfl).elim
                  | some mm => exact run_bounds (P := P) (mx := some mm) (bounds_cap hb _) true w
              simp only [Instr.sliceAt, Instr.slice]
              simp only [Sem.run_bind, run_underlying hu, Result.andThen_ok, V.re, if_true, hr, run_szV hsz, Sem.run_pure]
              cases hq : Nat.beq m l with
              | true => have := Nat.eq_of_beq_eq_true hq; simp [this]
              | false => have : m ≠ l := fun e => by subst e; simp at hq
                         simp [this, addr_add]
          · cases hv
        · rename_i a
          split at hv
          · rename_i l hh' m hb
            cases hv
            refine ⟨trivial, goal _ ?_⟩
            have hr := run_bounds (P := P) hb true w
            have h0 : l = 0 ∧ hh' = 0 ∧ m = 0 := by have := bounds_le hb (Nat.le_refl _); omega
            obtain ⟨rfl, rfl, rfl⟩ := h0
            simp only [Instr.sliceAt, Instr.slice]
            simp only [Sem.run_bind, run_underlying hu, Result.andThen_ok, V.re, hr, run_szV hsz, Sem.run_pure]
            simp
          · cases hv
        · cases hv
      · cases hv
    · cases hv

def strL : List V → Option (List UInt8)
  | [] => some []
  | .int .u8 n :: r => match strL r with
    | some l => some (UInt8.ofNat n.toNat :: l)
    | none => none
  | _ => none
def convV (P : Program) (s d : TypeId) (x : V) (h : Heap) : Option (V × List Nat) := match P.underlying s, P.underlying d, x with
  | some _, some (.int k), .int _ n => some (.int k (k.wrap n), [])
  | some _, some .string, .str s => some (.str s, [])
  | some (.slice e), some .string, .slice none _ _ _ => match P.underlying e with
    | some (.int .u8) => some (.str .empty, [])
    | _ => none
  | some (.slice e), some .string, .esl _ => match P.underlying e with
    | some (.int .u8) => some (.str .empty, [])
    | _ => none
  | some (.slice e), some .string, .slice (some (b, off)) len _ _ => match P.underlying e with
    | some (.int .u8) => match h.get b with
      | some (.cells c _) => match Nat.ble (off + len) c.size with
        | true => match strL (c.gets off len) with
          | some l => some (.str ⟨⟨l⟩⟩, [b])
          | none => none
        | false => none
      | _ => none
    | _ => none
  | _, _, _ => none
theorem convV_lt {s d : TypeId} {vx v : V} {rs : List Nat} (hv : convV P s d vx h = some (v, rs)) : ∀ b ∈ rs, b < h.n := by
  unfold convV at hv
  (repeat' (split at hv)) <;> cases hv <;> (try simp)
  exact Heap.get_lt (by assumption)
theorem push_data (acc : ByteArray) (u : UInt8) : (acc.push u).data.toList = acc.data.toList ++ [u] := by
  obtain ⟨⟨l⟩⟩ := acc; simp [ByteArray.push]
theorem run_strL (g : Value → ByteArray → Sem (ForInStep ByteArray)) (hg : ∀ n s, g (.int .u8 n) s = pure (.yield (s.push (UInt8.ofNat n.toNat)))) (σ : Ren) (w : World) : ∀ (l : List V) (acc : ByteArray) (r : List UInt8), strL l = some r →
    (forIn (V.reL σ l) acc g : Sem ByteArray).run P w = .ok ⟨⟨acc.data.toList ++ r⟩⟩ w
  | [], acc, r, h => by cases h; obtain ⟨⟨l⟩⟩ := acc; simp [V.reL]
  | v :: l, acc, r, h => by
    unfold strL at h
    split at h
    · rename_i e; cases e
    · rename_i n r' e
      cases e
      split at h
      · rename_i u hu
        cases h
        simp only [V.reL, V.re, List.forIn_cons, Sem.run_bind, hg]
        simp only [Sem.run_pure, Result.andThen_ok]
        rw [run_strL g hg σ w l _ u hu, push_data]
        simp
      · cases h
    · cases h
theorem ok_convert {s d : TypeId} {x : Operand} {vx v : V} {rs : List Nat} (ho : o.op = .convert s d x) (hx : evV tm x = some vx) (hv : convV P s d vx h = some (v, rs)) : PrimOk P tm o h ⟨v, h, rs, []⟩ := by
  refine PrimOk.read (fun H σ w ρ he hr hi => ?_) (convV_lt hv)
  · skip
    have h1 := he x (by simp [ho, Op.operands]) _ hx
    have goal : ∀ v', (convert s d (vx.re σ)).run P w = .ok v' w → (execOp ρ o).run P w = .ok (.value v') w := fun v' hr => by
      simp only [execOp, ho, h1.2]
      rw [Sem.run_bind, hr]; rfl
    unfold convV at hv
    split at hv
    · rename_i ds k k' n hs hd
      cases hv
      refine ⟨trivial, goal _ ?_⟩
      simp [convert, run_underlying hs, run_underlying hd, V.re, Conv.intToInt]
    · rename_i ds st hs hd
      cases hv
      refine ⟨trivial, goal _ ?_⟩
      cases ds <;> simp [convert, run_underlying hs, run_underlying hd, V.re]
    · rename_i e len cap ex hs hd
      split at hv
      · rename_i he8
        cases hv
        refine ⟨trivial, goal _ ?_⟩
        simp [convert, run_underlying hs, run_underlying hd, run_underlying he8, V.re, Conv.bytesToString]
      · cases hv
    · rename_i e a hs hd
      split at hv
      · rename_i he8
        cases hv
        refine ⟨trivial, goal _ ?_⟩
        simp [convert, run_underlying hs, run_underlying hd, run_underlying he8, V.re, Conv.bytesToString, loadCells]
        rfl
      · cases hv
    · rename_i e b off len cap ex hs hd
      split at hv
      · rename_i he8
        split at hv
        · rename_i c ce hg
          split at hv
          · rename_i hle
            split at hv
            · rename_i st hst
              cases hv
              refine ⟨trivial, goal _ ?_⟩
              have h2 := loadCells_rel hi (show H b = some (.cells c ce) by rw [hr b (by simp), hg]) off len (Nat.le_of_ble_eq_true hle)
              simp only [convert, Sem.run_bind, run_underlying hs, run_underlying hd, Result.andThen_ok, V.re, run_underlying he8, Conv.bytesToString, h2.2, List.forIn_toArray]
              rw [run_strL (P := P) _ (fun _ _ => rfl) σ w _ _ _ hst]
              simp
            · cases hv
          · cases hv
        · cases hv
      · cases hv
    · cases hv

end Go.Vm
set_option linter.unusedVariables false
set_option linter.unusedSimpArgs false
namespace Go.Vm
variable {P : Program} {tm : Tm} {o : Oper} {h : Heap}

theorem call_builtin {b : Builtin} {args : Array Operand} {argTypes : Array TypeId} (ho : o.op = .call { callee := .builtin b, args, argTypes }) (ρ : Operand → Value) (w : World) :
    (execOp ρ o).run P w = (builtin b argTypes o.type (args.map fun | .const _ => true | _ => false) (args.map ρ)).run P w := by
  simp only [execOp, ho, resolve, invoke, Sem.run_bind, Sem.run_pure, Result.andThen_ok]
  rfl
theorem mem_args {b : Builtin} {args : Array Operand} {argTypes : Array TypeId} (ho : o.op = .call { callee := .builtin b, args, argTypes }) {x : Operand} (hx : x ∈ args.toList) : x ∈ o.op.operands := by
  rw [ho]; simp only [Op.operands, Call.operands]; simpa using hx
theorem args_re {b : Builtin} {args : Array Operand} {argTypes : Array TypeId} (ho : o.op = .call { callee := .builtin b, args, argTypes }) {σ : Ren} {ρ : Operand → Value} (he : EvOn σ tm o ρ) {vs : List V} (hv : evVs tm args.toList = some vs) :
    V.onL σ vs ∧ args.map ρ = (V.reL σ vs).toArray := by
  have h1 := evVs_rel (ρ := ρ) args.toList vs (fun x hx => he x (mem_args ho hx)) hv
  exact ⟨h1.1, by rw [← h1.2, ← Array.toList_map, Array.toArray_toList]⟩

def lenV (P : Program) (t : TypeId) (x : V) (h : Heap) : Option (Nat × List Nat) := match P.underlying t, x with
  | some .string, .str s => some (s.size, [])
  | some (.slice _), .slice _ n _ _ => some (n, [])
  | some (.slice _), .esl _ => some (0, [])
  | some (.slice _), .eop _ _ => some (0, [])
  | some (.array n _), _ => some (n, [])
  | some (.map _ _), .map none => some (0, [])
  | some (.map _ _), .map (some r) => match h.get r with
    | some (.map es _) => some (es.length, [r])
    | _ => none
  | some (.pointer arr), _ => match P.underlying arr with
    | some (.array n _) => some (n, [])
    | _ => none
  | _, _ => none
theorem lenV_lt {t : TypeId} {x : V} {n : Nat} {rs : List Nat} (hv : lenV P t x h = some (n, rs)) : ∀ b ∈ rs, b < h.n := by
  unfold lenV at hv
  (repeat' (split at hv)) <;> cases hv <;> (try simp)
  exact Heap.get_lt (by assumption)
theorem ok_len {args : Array Operand} {argTypes : Array TypeId} {t : TypeId} {x : V} {n : Nat} {rs : List Nat} (ho : o.op = .call { callee := .builtin .len, args, argTypes }) (ht : argTypes[0]? = some t) (hx : evVs tm args.toList = some [x])
    (hv : lenV P t x h = some (n, rs)) : PrimOk P tm o h ⟨.int .i64 n, h, rs, []⟩ := by
  refine PrimOk.read (fun H σ w ρ he hr hi => ?_) (lenV_lt hv)
  · skip
    refine ⟨trivial, ?_⟩
    have ha := args_re ho he hx
    rw [call_builtin ho, ha.2]
    have key : (Builtin.len_ argTypes o.type (V.reL σ [x]).toArray).run P w = .ok (.int .i64 n) w := by
      unfold lenV at hv
      split at hv
      · rename_i s hu; cases hv; simp [Builtin.len_, ht, V.reL, V.re, run_underlying hu, goInt]
      · rename_i e a n' c ex hu; cases hv
        cases a <;> simp [Builtin.len_, ht, V.reL, V.re, run_underlying hu, goInt]
      · rename_i e a hu; cases hv; simp [Builtin.len_, ht, V.reL, V.re, run_underlying hu, goInt]
      · rename_i e a l hu; cases hv; simp [Builtin.len_, ht, V.reL, V.re, run_underlying hu, goInt]
      · rename_i n' e hu; cases hv; simp [Builtin.len_, ht, V.reL, run_underlying hu, goInt]
      · rename_i k e hu; cases hv; simp [Builtin.len_, ht, V.reL, V.re, run_underlying hu, goInt]
      · rename_i k e r hu
        split at hv
        · rename_i es clock hg
          cases hv
          obtain ⟨l, hl, h1, h3⟩ := hi.rel r _ (show H r = some (.map es clock) by rw [hr r (by simp), hg]) rfl
          simp [Builtin.len_, ht, V.reL, V.re, run_underlying hu, goInt, getObj, Sem.run, Ren.b_eq hl, h1]
        · cases hv
      · rename_i arr hu
        split at hv
        · rename_i n' e hu'; cases hv; simp [Builtin.len_, ht, V.reL, run_underlying hu, run_underlying hu', goInt]
        · cases hv
      · cases hv
    simp only [builtin, Sem.run_bind, key, Result.andThen_ok, Sem.run_pure, V.re]

def capV (P : Program) (t : TypeId) (x : V) : Option Nat := match P.underlying t, x with
  | some (.slice _), .slice _ _ c true => some c
  | some (.slice _), .slice none _ c _ => some c
  | some (.slice _), .esl _ => some 0
  | some (.array n _), _ => some n
  | _, _ => none
theorem ok_cap {args : Array Operand} {argTypes : Array TypeId} {t : TypeId} {x : V} {n : Nat} (ho : o.op = .call { callee := .builtin .cap, args, argTypes }) (ht : argTypes[0]? = some t) (hx : evVs tm args.toList = some [x])
    (hv : capV P t x = some n) : PrimOk P tm o h ⟨.int .i64 n, h, [], []⟩ :=
  PrimOk.pure fun σ w ρ he => by
    refine ⟨trivial, ?_⟩
    have ha := args_re ho he hx
    rw [call_builtin ho, ha.2]
    have key : (Builtin.cap_ argTypes o.type (V.reL σ [x]).toArray).run P w = .ok (.int .i64 n) w := by
      unfold capV at hv
      split at hv
      · rename_i e a n' c hu; cases hv
        cases a <;> simp [Builtin.cap_, ht, V.reL, V.re, run_underlying hu, goInt]
      · rename_i e n' c ex _ hu; cases hv
        simp [Builtin.cap_, ht, V.reL, V.re, run_underlying hu, goInt]
      · rename_i e a hu; cases hv; simp [Builtin.cap_, ht, V.reL, V.re, run_underlying hu, goInt]
      · rename_i n' e hu; cases hv; simp [Builtin.cap_, ht, V.reL, run_underlying hu, goInt]
      · cases hv
    simp only [builtin, Sem.run_bind, key, Result.andThen_ok, Sem.run_pure, V.re]

theorem ok_min {args : Array Operand} {argTypes : Array TypeId} {k k' : IntKind} {x y : Int} (ho : o.op = .call { callee := .builtin .min, args, argTypes }) (hx : evVs tm args.toList = some [.int k x, .int k' y]) :
    PrimOk P tm o h ⟨.int k (if y < x then y else x), h, [], []⟩ :=
  PrimOk.pure fun σ w ρ he => by
    refine ⟨trivial, ?_⟩
    have ha := args_re ho he hx
    rw [call_builtin ho, ha.2]
    simp [builtin, Builtin.min_, Builtin.min2, V.reL, V.re]
theorem ok_max {args : Array Operand} {argTypes : Array TypeId} {k k' : IntKind} {x y : Int} (ho : o.op = .call { callee := .builtin .max, args, argTypes }) (hx : evVs tm args.toList = some [.int k x, .int k' y]) :
    PrimOk P tm o h ⟨.int k (if y > x then y else x), h, [], []⟩ :=
  PrimOk.pure fun σ w ρ he => by
    refine ⟨trivial, ?_⟩
    have ha := args_re ho he hx
    rw [call_builtin ho, ha.2]
    simp [builtin, Builtin.max_, Builtin.max2, V.reL, V.re]

def lenOfV : V → Option Nat
  | .slice _ n _ _ => some n
  | .str s => some s.size
  | .esl _ => some 0
  | .eop _ _ => some 0
  | _ => none
theorem run_lenOfV {σ : Ren} {x : V} {n : Nat} (hv : lenOfV x = some n) (w : World) : (Builtin.lenOf (x.re σ)).run P w = .ok n w := by
  unfold lenOfV at hv
  split at hv
  · rename_i a n' c ex; cases hv
    cases a <;> simp [V.re, Builtin.lenOf]
  · cases hv; simp [V.re, Builtin.lenOf]
  · cases hv; simp [V.re, Builtin.lenOf]
  · cases hv; simp [V.re, Builtin.lenOf]
  · cases hv
def firstV (h : Heap) (sz n : Nat) (x : V) : Option (List V × List Nat) := match x with
  | .slice none _ _ _ => some ([], [])
  | .slice (some (b, off)) _ _ _ => match h.get b with
    | some (.cells c _) => match Nat.ble (off + n * sz) c.size with
      | true => some (c.gets off (n * sz), [b])
      | false => none
    | _ => none
  | .str s => some ((s.extract 0 n).data.toList.map fun b => .int .u8 b.toNat, [])
  | .esl _ => match n with
    | 0 => some ([], [])
    | _ + 1 => none
  | .eop _ _ => match n with
    | 0 => some ([], [])
    | _ + 1 => none
  | _ => none
theorem run_firstV {H : HF} {σ : Ren} {w : World} {sz n : Nat} {x : V} {vs : List V} {rs : List Nat} (hv : firstV h sz n x = some (vs, rs)) (hr : ∀ b ∈ rs, H b = h.get b) (hi : Inv P H σ w) :
    V.onL σ vs ∧ (Builtin.firstCells sz n (x.re σ)).run P w = .ok (V.reL σ vs).toArray w := by
  unfold firstV at hv
  split at hv
  · cases hv; exact ⟨trivial, by simp [V.re, Builtin.firstCells, V.reL]⟩
  · rename_i b off len cap ex
    split at hv
    · rename_i c e hg
      split at hv
      · rename_i hle
        cases hv
        have h2 := loadCells_rel hi (show H b = some (.cells c e) by rw [hr b (by simp), hg]) off (n * sz) (Nat.le_of_ble_eq_true hle)
        exact ⟨h2.1, by simp [V.re, Builtin.firstCells, h2.2]⟩
      · cases hv
    · cases hv
  · rename_i s
    cases hv
    refine ⟨?_, ?_⟩
    · rw [V.onL_iff]; intro v hv; obtain ⟨b, _, rfl⟩ := List.mem_map.1 hv; trivial
    · simp only [V.re, Builtin.firstCells, Sem.run_pure, V.reL_eq, List.map_map]
      congr 1
      apply Array.ext'
      simp [Function.comp_def, V.re]
  · split at hv
    · cases hv; exact ⟨trivial, by simp [V.re, Builtin.firstCells, V.reL, loadCells, loadCellsFrom]⟩
    · cases hv
  · split at hv
    · cases hv; exact ⟨trivial, by simp [V.re, Builtin.firstCells, V.reL, loadCells, loadCellsFrom]⟩
    · cases hv
  · cases hv

theorem firstV_lt {sz n : Nat} {x : V} {vs : List V} {rs : List Nat} (hv : firstV h sz n x = some (vs, rs)) : ∀ b ∈ rs, b < h.n := by
  unfold firstV at hv
  (repeat' (split at hv)) <;> cases hv <;> (try simp)
  exact Heap.get_lt (by assumption)

def copyV (P : Program) (t : TypeId) (d s : V) (h : Heap) : Option Pr := match P.underlying t with
  | some (.slice e) => match szV P e with
    | some sz => match d with
      | .slice base dLen _ _ => match lenOfV s with
        | some n => match firstV h sz (Nat.min n dLen) s with
          | some (vs, rs) => match base with
            | none => some ⟨.int .i64 (Nat.min n dLen), h, rs, []⟩
            | some (b, off) => match h.get b with
              | some (.cells c ce) => match Nat.ble (off + vs.length) c.size with
                | true => match allOne vs with
                  | true => match c.ro with
                    | false => some ⟨.int .i64 (Nat.min n dLen), h.set b (.cells (c.putA off vs) ce), rs, [b]⟩
                    | true => none
                  | false => none
                | false => none
              | _ => none
          | none => none
        | none => none
      | _ => none
    | none => none
  | _ => none
theorem ok_copy {args : Array Operand} {argTypes : Array TypeId} {t : TypeId} {d s : V} {pr : Pr} (ho : o.op = .call { callee := .builtin .copy, args, argTypes }) (ht : argTypes[0]? = some t) (hx : evVs tm args.toList = some [d, s])
    (hv : copyV P t d s h = some pr) : PrimOk P tm o h pr := by
  unfold copyV at hv
  split at hv
  · rename_i e hu
    split at hv
    · rename_i sz hsz
      split at hv
      · rename_i base dLen dCap ex
        split at hv
        · rename_i n hn
          split at hv
          · rename_i vs rs hf
            split at hv
            · cases hv
              refine PrimOk.read (fun H σ w ρ he hr hi => ⟨trivial, ?_⟩) (firstV_lt hf)
              have ha := args_re ho he hx
              have h2 := run_firstV hf hr hi
              rw [call_builtin ho, ha.2]
              have key : (Builtin.copy_ argTypes o.type (V.reL σ [.slice none dLen dCap ex, s]).toArray).run P w = .ok (.int .i64 (Nat.min n dLen : Nat)) w := by
                simp [Builtin.copy_, ht, V.reL, V.re, run_underlying hu, run_lenOfV hn, run_szV hsz, h2.2, goInt]
              simp only [builtin, Sem.run_bind, key, Result.andThen_ok, Sem.run_pure, V.re]
            · rename_i b off
              split at hv
              · rename_i c ce hg
                split at hv
                · rename_i hle
                  split at hv
                  · rename_i hone
                    split at hv
                    case h_2 => cases hv
                    rename_i hro
                    cases hv
                    refine PrimOk.write hg rfl rfl (fun H σ w ρ he hr hi l hl hB => ?_) (firstV_lt hf)
                    have ha := args_re ho he hx
                    have h2 := run_firstV hf hr hi
                    obtain ⟨w', hrun, e1, e2, e3, e4, e5, hB'⟩ := storeCells_rel hl hB hro off vs (Nat.le_of_ble_eq_true hle) (allOne_mem hone) ((V.onL_iff _ _).1 h2.1)
                    refine ⟨w', _, .int .i64 (Nat.min n dLen : Nat), e1, e2, e3, e4, e5, hB', .inl rfl, ⟨trivial, rfl⟩, ?_⟩
                    rw [call_builtin ho, ha.2]
                    have key : (Builtin.copy_ argTypes o.type (V.reL σ [.slice (some (b, off)) dLen dCap ex, s]).toArray).run P w = .ok (.int .i64 (Nat.min n dLen : Nat)) w' := by
                      simp [Builtin.copy_, ht, V.reL, V.re, run_underlying hu, run_lenOfV hn, run_szV hsz, h2.2, goInt, V.reL_eq, hrun]
                    simp only [builtin, Sem.run_bind, key, Result.andThen_ok, Sem.run_pure]
                  · cases hv
                · cases hv
              · cases hv
          · cases hv
        · cases hv
      · cases hv
    · cases hv
  · cases hv

end Go.Vm
set_option linter.unusedVariables false
set_option linter.unusedSimpArgs false
namespace Go.Vm
variable {P : Program} {tm : Tm} {o : Oper} {h : Heap}

abbrev Ents := List (V × V × Nat)

def findV (P : Program) (kt : TypeId) (k : V) : Ents → Nat → Option (Option (Nat × V))
  | [], _ => some none
  | e :: es, i => match eqD P 10 kt k e.1 with
    | some true => some (some (i, e.2.1))
    | some false => findV P kt k es (i + 1)
    | none => none
def reF (σ : Ren) : Option (Nat × V) → Option (Nat × Value)
  | some (i, v) => some (i, v.re σ)
  | none => none
theorem findAsking_sound {kt : TypeId} {k : V} {σ : Ren} (hk : k.on σ) : ∀ (es : Ents) (i : Nat) (r : Option (Nat × V)), findV P kt k es i = some r → (∀ e ∈ es, onE σ e) → ∀ w,
    (Instr.findAsking kt (k.re σ) (es.map (reE σ)) i).run P w = .ok (reF σ r) w
  | [], i, r, h, _, w => by cases h; simp [Instr.findAsking, reF]
  | e :: es, i, r, h, hon, w => by
    unfold findV at h
    have he := hon e (by simp)
    split at h
    · rename_i hq
      cases h
      have := eqD_sound _ _ _ _ _ hq 10000 σ w (by omega) hk he.1
      simp [Instr.findAsking, Op.equal, Op.maxDepth, reE, this, reF]
    · rename_i hq
      have := eqD_sound _ _ _ _ _ hq 10000 σ w (by omega) hk he.1
      simp only [List.map_cons, Instr.findAsking, Op.equal, Op.maxDepth, reE, Sem.run_bind, this, Result.andThen_ok]
      simpa [reE] using findAsking_sound hk es (i + 1) r h (fun e he => hon e (by simp [he])) w
    · cases h
theorem sameNow_eq {kt : TypeId} {kd : TypeDesc} (hu : P.underlying kt = some kd) {a b : V} {q r : Bool} (h : eqD P 10 kt a b = some q) {σ : Ren} (hs : Instr.sameNow kd (a.re σ) (b.re σ) = some r) : r = q := by
  unfold eqD at h
  unfold Instr.sameNow at hs
  split at h
  · simp [V.re] at hs
  · rw [hu] at h
    simp only [V.re] at hs
    split at h
    · rename_i hk
      cases hk
      split at h
      · rename_i e; cases h; simp [e] at hs; simp [hs]
      · cases h
    · cases h
  · rw [hu] at h
    simp only [V.re] at hs
    split at h
    · rename_i hk; cases hk; cases h; simp at hs; rw [← hs, eqB_bytes, beq_toListBytes]
    · cases h
  · unfold eqSmall at h
    rw [hu] at h
    split at h <;> (try cases h) <;> simp_all [V.re]
theorem findNow_eq {kt : TypeId} {kd : TypeDesc} (hu : P.underlying kt = some kd) {k : V} {σ : Ren} : ∀ (es : Ents) (i : Nat) (r : Option (Nat × V)) (q : Option (Nat × Value)), findV P kt k es i = some r →
    Instr.findNow kd (k.re σ) (es.map (reE σ)) i = some q → q = reF σ r
  | [], i, r, q, h, hq => by cases h; simp [Instr.findNow] at hq; simp [← hq, reF]
  | e :: es, i, r, q, h, hq => by
    unfold findV at h
    simp only [List.map_cons, Instr.findNow] at hq
    split at h
    · rename_i he
      cases h
      split at hq
      · cases hq; rfl
      · rename_i hs; have := sameNow_eq hu he (σ := σ) hs; cases this
      · cases hq
    · rename_i he
      split at hq
      · rename_i hs; have := sameNow_eq hu he (σ := σ) hs; cases this
      · exact findNow_eq hu es (i + 1) r q h hq
      · cases hq
    · cases h
theorem findKey_sound {kt : TypeId} {k : V} {σ : Ren} (hk : k.on σ) {es : Ents} {r : Option (Nat × V)} (h : findV P kt k es 0 = some r) (hon : ∀ e ∈ es, onE σ e) {kd : TypeDesc} (hu : P.underlying kt = some kd) (w : World) :
    (Instr.findKey kt (k.re σ) (es.map (reE σ))).run P w = .ok (reF σ r) w := by
  simp only [Instr.findKey, Sem.run_bind, run_underlying hu, Result.andThen_ok]
  cases hq : Instr.findNow kd (k.re σ) (es.map (reE σ)) 0 with
  | some q => simp [findNow_eq hu es 0 r q h hq]
  | none => exact findAsking_sound hk es 0 r h hon w

def keyOk (P : Program) : Nat → TypeId → V → Bool
  | 0, _, _ => false
  | d + 1, t, v => match P.underlying t with
    | some (.interface _) => false
    | some (.array _ _) => false
    | some (.struct fs) => match v with
      | .agg cs => fs.toList.all fun f => decide (f.name = "_") || (match partV P f.type cs f.offset with
        | some a => keyOk P d f.type a
        | none => false)
      | _ => false
    | some _ => true
    | none => false
theorem keyOk_sound (em : Bool) {σ : Ren} : ∀ (d : Nat) (t : TypeId) (v : V), keyOk P d t v = true → v.on σ → ∀ D w, d ≤ D → (Instr.checkKey em D t (v.re σ)).run P w = .ok () w
  | 0, t, v, h => by simp [keyOk] at h
  | d + 1, t, v, h => by
    intro hv D w hD
    obtain ⟨D, rfl⟩ : ∃ D', D = D' + 1 := ⟨D - 1, by omega⟩
    unfold keyOk at h
    split at h
    · cases h
    · cases h
    · rename_i fs hu
      split at h
      · rename_i cs
        simp only [V.re, Instr.checkKey, Sem.run_bind, run_underlying hu, Result.andThen_ok]
        rw [← Array.forIn_toList]
        have hcs := (V.onL_iff σ cs).1 (show V.onL σ cs from hv)
        have key : ∀ (l : List Field), (l.all fun f => decide (f.name = "_") || (match partV P f.type cs f.offset with
            | some a => keyOk P d f.type a
            | none => false)) = true → ∀ w, (forIn (m := Sem) l PUnit.unit fun f _ => (do
              if f.name ≠ "_" then Instr.checkKey em D f.type (← part f.type (V.reL σ cs).toArray f.offset)
              pure (ForInStep.yield PUnit.unit) : Sem (ForInStep PUnit))).run P w = .ok PUnit.unit w := by
          intro l
          induction l with
          | nil => intro _ w; simp
          | cons f l ih =>
            intro hl w
            simp only [List.all_cons, Bool.and_eq_true, Bool.or_eq_true, decide_eq_true_eq] at hl
            simp only [List.forIn_cons, Sem.run_bind, Sem.run_ite]
            by_cases hn : f.name = "_"
            · rw [if_neg (by simp [hn])]
              simp only [Sem.run_pure, Result.andThen_ok]
              exact ih hl.2 w
            · rw [if_pos hn]
              rcases hl.1 with h1 | h1
              · exact absurd h1 hn
              · split at h1
                · rename_i a ha
                  have pa := part_re ha hcs w
                  have := keyOk_sound em d f.type a h1 pa.1 D w (by omega)
                  simp only [pa.2, Result.andThen_ok, this, Sem.run_pure]
                  exact ih hl.2 w
                · cases h1
        have := key fs.toList h w
        simp at this ⊢
        rw [this]; rfl
      · cases h
    · rename_i kd h1 h2 h3 hu
      simp only [Instr.checkKey, Sem.run_bind, run_underlying hu, Result.andThen_ok]
      cases kd <;> first | rfl | (simp_all; done) | (cases v <;> first | rfl | (rename_i a _ _ _; cases a <;> rfl) | (rename_i a; cases a <;> rfl))
    · cases h

def sameV : Nat → V → V → Bool
  | _, .bool a, .bool b => a == b
  | _, .int j a, .int k b => decide (j = k) && a == b
  | _, .str a, .str b => eqB a.data.toList b.data.toList
  | n + 1, .agg a, .agg b => Nat.beq a.length b.length && (a.zip b).all fun (x, y) => sameV n x y
  | _, _, _ => false
theorem sameV_sound {σ : Ren} : ∀ (d : Nat) (x y : V), sameV d x y = true → ∀ D, d ≤ D → Instr.sameBits D (x.re σ) (y.re σ) = true := by
  intro d
  induction d with
  | zero =>
    intro x y h D hD
    unfold sameV at h
    split at h <;> (try cases h) <;> simp_all [V.re, Instr.sameBits, beq_toListBytes, eqB_bytes]
    all_goals (cases D <;> simp_all [Instr.sameBits, beq_toListBytes, eqB_bytes])
  | succ d ih =>
    intro x y h D hD
    unfold sameV at h
    split at h
    · simp_all [V.re, Instr.sameBits]
    · simp_all [V.re, Instr.sameBits]
    · simp_all [V.re, Instr.sameBits, beq_toListBytes, eqB_bytes]
    · rename_i n a b hn
      obtain ⟨D, rfl⟩ : ∃ D', D = D' + 1 := ⟨D - 1, by omega⟩
      simp only [Bool.and_eq_true] at h
      have hl := Nat.eq_of_beq_eq_true h.1
      have e : d = n := by omega
      subst e
      simp only [V.re, Instr.sameBits, V.reL_eq, Bool.and_eq_true]
      refine ⟨by simp [hl], ?_⟩
      rw [List.all_eq_true]
      rintro ⟨p, q⟩ hpq
      simp only [List.zip_map] at hpq
      obtain ⟨⟨x, y⟩, hxy, hpq⟩ := List.mem_map.1 hpq
      simp only [Prod.map_apply, Prod.mk.injEq] at hpq
      obtain ⟨rfl, rfl⟩ := hpq
      exact ih x y (List.all_eq_true.1 h.2 (x, y) hxy) D (by omega)
    · cases h

theorem map_rel {H : HF} {σ : Ren} {w : World} (hi : Inv P H σ w) {b : Nat} {es : Ents} {c : Nat} (hg : H b = some (.map es c)) :
    ∃ l, σ b = some l ∧ w.heap[l.blk]? = some (.map (es.map (reE σ)).toArray c) ∧ ∀ e ∈ es, onE σ e := by
  obtain ⟨l, hl, h1, h2⟩ := hi.rel b _ hg rfl
  exact ⟨l, hl, h1, h2⟩
theorem run_getMap {w : World} {r : Nat} {es : Array MapEntry} {c : Nat} (h : w.heap[r]? = some (.map es c)) : (getObj r).run P w = .ok (.map es c) w := by
  simp [getObj, Sem.run, h]
theorem run_setMap {w : World} {r : Nat} {es : Array MapEntry} {c : Nat} (h : w.heap[r]? = some (.map es c)) (o : Obj) : (setObj r o).run P w = .ok () (w.putObj r o) := by
  simp [setObj, Sem.run, h, World.putObj]

theorem ok_makeMap {t : TypeId} (ho : o.op = .makeMap t none) : PrimOk P tm o h ⟨.map (some h.n), h.push (.map [] 0), [], []⟩ :=
  PrimOk.make rfl fun H σ w ρ he hr hi hn => by
    refine ⟨w, .map #[] 0, 0, rfl, rfl, rfl, rfl, ⟨by simp, fun e he => by cases he⟩, ?_, ?_⟩
    · exact ⟨_, Ren.upd_same _ _ _⟩
    · simp only [execOp, ho, Instr.makeMap, Option.map_none, V.re, Option.map_some]
      rw [Ren.b_eq (Ren.upd_same σ h.n _)]
      simp [run_newObj_alloc]

def lookV (P : Program) (t : TypeId) (h : Heap) (x k : V) (ok : Bool) : Option (V × List Nat) := match P.underlying t with
  | some (.map kt et) => match P.underlying kt, keyOk P 10 kt k, zeroV P et with
    | some _, true, some z => match x with
      | .map none => some (if ok then .tuple [z, .bool false] else z, [])
      | .map (some b) => match h.get b with
        | some (.map es _) => match findV P kt k es 0 with
          | some (some (_, v)) => some (if ok then .tuple [v, .bool true] else v, [b])
          | some none => some (if ok then .tuple [z, .bool false] else z, [b])
          | none => none
        | _ => none
      | _ => none
    | _, _, _ => none
  | _ => none
theorem lookV_lt {t : TypeId} {x k v : V} {ok : Bool} {rs : List Nat} (hv : lookV P t h x k ok = some (v, rs)) : ∀ b ∈ rs, b < h.n := by
  unfold lookV at hv
  (repeat' (split at hv)) <;> cases hv <;> (try simp) <;> exact Heap.get_lt (by assumption)
theorem findV_mem {kt : TypeId} {k : V} : ∀ {es : Ents} {i j : Nat} {v : V}, findV P kt k es i = some (some (j, v)) → i ≤ j ∧ ∃ e, es[j - i]? = some e ∧ e.2.1 = v ∧ eqD P 10 kt k e.1 = some true
  | [], i, j, v, h => by cases h
  | e :: es, i, j, v, h => by
    unfold findV at h
    split at h
    · rename_i hq; cases h; exact ⟨Nat.le_refl _, e, by simp, rfl, hq⟩
    · obtain ⟨h1, e', h2, h3, h4⟩ := findV_mem h
      refine ⟨by omega, e', ?_, h3, h4⟩
      rw [show j - i = (j - (i + 1)) + 1 by omega]; simpa using h2
    · cases h
theorem ok_lookup {t : TypeId} {x y : Operand} {vx k v : V} {ok : Bool} {rs : List Nat} (ho : o.op = .lookup t x y ok) (hx : evV tm x = some vx) (hy : evV tm y = some k) (hv : lookV P t h vx k ok = some (v, rs)) : PrimOk P tm o h ⟨v, h, rs, []⟩ := by
  refine PrimOk.read (fun H σ w ρ he hr hi => ?_) (lookV_lt hv)
  have h1 := he x (by simp [ho, Op.operands]) _ hx
  have h2 := he y (by simp [ho, Op.operands]) _ hy
  unfold lookV at hv
  split at hv
  · rename_i kt et hu
    split at hv
    · rename_i kd z hku hko hz
      have hz' := run_zeroV hz w σ
      split at hv
      · cases hv
        have hck := fun em => keyOk_sound em 10 kt k hko h2.1 10000 w (by omega)
        cases ok
        · refine ⟨hz'.1, ?_⟩
          simp [execOp, ho, h1.2, h2.2, V.re, Instr.lookup, run_underlying hu, hck, Instr.findKey, run_underlying hku, Instr.findNow, hz'.2]
        · refine ⟨⟨hz'.1, trivial, trivial⟩, ?_⟩
          simp [execOp, ho, h1.2, h2.2, V.re, V.reL, Instr.lookup, run_underlying hu, hck, Instr.findKey, run_underlying hku, Instr.findNow, hz'.2]
      · rename_i b
        split at hv
        · rename_i es c hg
          have key : ∀ r, findV P kt k es 0 = some r → b ∈ rs → (∀ e ∈ es, onE σ e) ∧ (execOp ρ o).run P w = ((match reF σ r with
              | some (_, v) => (pure (v, true) : Sem (Value × Bool))
              | none => (do pure (← zeroValue et, false))) >>= fun (p : Value × Bool) => (pure (.value (if ok then .tuple #[p.1, .bool p.2] else p.1)) : Sem Next)).run P w := by
            intro r hf hbr
            obtain ⟨l, hl, hw, hon⟩ := map_rel hi (show H b = some (.map es c) by rw [hr b hbr, hg])
            have hck := fun em => keyOk_sound em 10 kt k hko h2.1 10000 w (by omega)
            have hfk := findKey_sound h2.1 hf hon hku w
            refine ⟨hon, ?_⟩
            simp only [execOp, ho, h1.2, h2.2, V.re, Option.map_some, Instr.lookup, Sem.run_bind, run_underlying hu, Result.andThen_ok, Ren.b_eq hl, run_getMap hw, Sem.run_pure, hck, hfk]
            cases r with
            | none => simp [reF, hz'.2]
            | some p => simp [reF]
          split at hv
          · rename_i i v' hf
            cases hv
            obtain ⟨hon, hrun⟩ := key _ hf (by simp)
            obtain ⟨_, e, he1, he2, _⟩ := findV_mem hf
            have hve : v'.on σ := by rw [← he2]; exact (hon e (List.mem_of_getElem? he1)).2
            cases ok
            · exact ⟨hve, by rw [hrun]; simp [reF]⟩
            · exact ⟨⟨hve, trivial, trivial⟩, by rw [hrun]; simp [reF, V.re, V.reL]⟩
          · rename_i hf
            cases hv
            obtain ⟨hon, hrun⟩ := key _ hf (by simp)
            cases ok
            · exact ⟨hz'.1, by rw [hrun]; simp [reF, hz'.2]⟩
            · exact ⟨⟨hz'.1, trivial, trivial⟩, by rw [hrun]; simp [reF, hz'.2, V.re, V.reL]⟩
          · cases hv
        · cases hv
      · cases hv
    · cases hv
  · cases hv

def updV (P : Program) (t : TypeId) (h : Heap) (x k v : V) : Option (Heap × List Nat) := match P.underlying t with
  | some (.map kt _) => match P.underlying kt, keyOk P 10 kt k with
    | some _, true => match x with
      | .map (some b) => match h.get b with
        | some (.map es c) => match findV P kt k es 0 with
          | some (some (i, _)) => match es[i]? with
            | some e => match sameV 10 e.1 k with
              | true => some (h.set b (.map (es.set i (k, v, e.2.2)) c), [b])
              | false => none
            | none => none
          | some none => some (h.set b (.map (es ++ [(k, v, c)]) (c + 1)), [b])
          | none => none
        | _ => none
      | _ => none
    | _, _ => none
  | _ => none
theorem ok_update {t : TypeId} {x y z : Operand} {vx k v : V} {h' : Heap} {ws : List Nat} (ho : o.op = .mapUpdate t x y z ∨ o.op = .insert t x y z) (hx : evV tm x = some vx) (hy : evV tm y = some k) (hz : evV tm z = some v) (hv : updV P t h vx k v = some (h', ws)) : PrimOk P tm o h ⟨undefV, h', [], ws⟩ := by
  unfold updV at hv
  split at hv
  · rename_i kt et hu
    split at hv
    · rename_i kd hku hko
      split at hv
      · rename_i b
        split at hv
        · rename_i es c hg
          have main : ∀ (es' : Ents) (c' : Nat), (∀ (σ : Ren) (w : World), (∀ e ∈ es, onE σ e) → k.on σ → v.on σ → (∀ e ∈ es', onE σ e) ∧ ∀ bl, w.heap[bl]? = some (.map (es.map (reE σ)).toArray c) →
              (Instr.mapUpdate t (.map (some bl)) (k.re σ) (v.re σ)).run P w = .ok () (w.putObj bl (.map (es'.map (reE σ)).toArray c'))) → PrimOk P tm o h ⟨undefV, h.set b (.map es' c'), [], [b]⟩ := by
            intro es' c' hm
            refine PrimOk.write hg rfl rfl (fun H σ w ρ he hr hi l hl hB => ?_)
            have h1 := he x (by rcases ho with ho | ho <;> simp [ho, Op.operands]) _ hx
            have h2 := he y (by rcases ho with ho | ho <;> simp [ho, Op.operands]) _ hy
            have h3 := he z (by rcases ho with ho | ho <;> simp [ho, Op.operands]) _ hz
            obtain ⟨hw, hon⟩ := hB
            obtain ⟨hon', hrun⟩ := hm σ w hon h2.1 h3.1
            have hlt : l.blk < w.heap.size := (Array.getElem?_eq_some_iff.1 hw).1
            refine ⟨w.putObj l.blk (.map (es'.map (reE σ)).toArray c'), .skip, undef, by simp [World.putObj], fun k hk => World.putObj_heap_other hk, rfl, rfl, rfl, ⟨by rw [World.putObj_heap_same hlt], hon'⟩, .inr ⟨rfl, rfl⟩, ⟨undefV_on _, (undefV_re σ).symm⟩, ?_⟩
            have := hrun l.blk hw
            rcases ho with ho | ho
            all_goals
              simp only [execOp, ho, h1.2, h2.2, h3.2, V.re, Option.map_some, Ren.b_eq hl, Sem.run_bind, this, Result.andThen_ok, Sem.run_pure]
          split at hv
          · rename_i i v0 hf
            split at hv
            · rename_i e hei
              split at hv
              · rename_i hs
                cases hv
                refine main _ _ fun σ w hon hk hvv => ⟨fun e' he' => ?_, fun bl hw => ?_⟩
                · rcases List.mem_or_eq_of_mem_set he' with h' | h'
                  · exact hon e' h'
                  · subst h'; exact ⟨hk, hvv⟩
                · have hck := keyOk_sound false 10 kt k hko hk 10000 w (by omega)
                  have hfk := findKey_sound hk hf hon hku w
                  have hsb : Instr.sameBits 10000 (e.1.re σ) (k.re σ) = true := sameV_sound 10 _ _ hs 10000 (by omega)
                  have hi1 : ((es.map (reE σ)).toArray)[i]? = some (reE σ e) := by simp [hei]
                  simp only [Instr.mapUpdate, Sem.run_bind, run_underlying hu, Result.andThen_ok, run_getMap hw, hck, hfk, reF, hi1, Option.map_some, Option.getD_some]
                  simp only [Instr.keyThatStays]
                  rw [show (reE σ e).key = e.1.re σ from rfl, hsb]
                  simp only [if_true, Sem.run_pure, Result.andThen_ok]
                  rw [run_setMap hw]
                  congr 3
                  apply Array.ext'
                  simp only [Array.toList_modify, List.map_set]
                  apply List.ext_getElem?
                  intro j
                  rw [List.getElem?_modify, List.getElem?_set]
                  by_cases hj : i = j
                  · subst hj
                    have hil : i < es.length := (List.getElem?_eq_some_iff.1 hei).1
                    have he' : es[i] = e := by rw [List.getElem?_eq_getElem hil] at hei; exact Option.some.inj hei
                    simp [hei, hil, reE, he']
                  · simp [hj]
              · cases hv
            · cases hv
          · rename_i hf
            cases hv
            refine main _ _ fun σ w hon hk hvv => ⟨fun e' he' => ?_, fun bl hw => ?_⟩
            · rcases List.mem_append.1 he' with h' | h'
              · exact hon e' h'
              · simp at h'; subst h'; exact ⟨hk, hvv⟩
            · have hck := keyOk_sound false 10 kt k hko hk 10000 w (by omega)
              have hfk := findKey_sound hk hf hon hku w
              simp only [Instr.mapUpdate, Sem.run_bind, run_underlying hu, Result.andThen_ok, run_getMap hw, hck, hfk, reF]
              rw [run_setMap hw]
              simp [reE]
          · cases hv
        · cases hv
      · cases hv
    · cases hv
  · cases hv

theorem map_eraseIdx {α β : Type} (f : α → β) : ∀ (l : List α) (i : Nat), (l.map f).eraseIdx i = (l.eraseIdx i).map f
  | [], i => by simp
  | a :: l, 0 => by simp
  | a :: l, i + 1 => by simp [map_eraseIdx f l i]
def delV (P : Program) (t : TypeId) (h : Heap) (x k : V) : Option Pr := match P.underlying t with
  | some (.map kt _) => match P.underlying kt, keyOk P 10 kt k with
    | some _, true => match x with
      | .map none => some ⟨undefV, h, [], []⟩
      | .map (some b) => match h.get b with
        | some (.map es c) => match findV P kt k es 0 with
          | some (some (i, _)) => some ⟨undefV, h.set b (.map (es.eraseIdx i) c), [], [b]⟩
          | some none => some ⟨undefV, h.set b (.map es c), [], [b]⟩
          | none => none
        | _ => none
      | _ => none
    | _, _ => none
  | _ => none
theorem ok_delete {args : Array Operand} {ts : Array TypeId} {t : TypeId} {x k : V} {pr : Pr} (ho : o.op = .call { callee := .builtin .delete, args, argTypes := ts }) (ht : ts[0]? = some t) (hx : evVs tm args.toList = some [x, k]) (hv : delV P t h x k = some pr) : PrimOk P tm o h pr := by
  unfold delV at hv
  split at hv
  · rename_i kt et hu
    split at hv
    · rename_i kd hku hko
      split at hv
      · cases hv
        refine PrimOk.pure fun σ w ρ he => ⟨undefV_on _, ?_⟩
        have ha := args_re ho he hx
        have hck := keyOk_sound true 10 kt k hko ha.1.2.1 10000 w (by omega)
        rw [call_builtin ho, ha.2]
        simp [builtin, Builtin.delete_, ht, V.reL, V.re, run_underlying hu, hck, undefV]
      · rename_i b
        split at hv
        · rename_i es c hg
          have main : ∀ (es' : Ents), (∀ (σ : Ren) (w : World), (∀ e ∈ es, onE σ e) → k.on σ → (∀ e ∈ es', onE σ e) ∧ ∀ bl, w.heap[bl]? = some (.map (es.map (reE σ)).toArray c) →
              (Builtin.delete_ ts o.type #[.map (some bl), k.re σ]).run P w = .ok undef (w.putObj bl (.map (es'.map (reE σ)).toArray c))) → PrimOk P tm o h ⟨undefV, h.set b (.map es' c), [], [b]⟩ := by
            intro es' hm
            refine PrimOk.write hg rfl rfl (fun H σ w ρ he hr hi l hl hB => ?_)
            have ha := args_re ho he hx
            obtain ⟨hw, hon⟩ := hB
            obtain ⟨hon', hrun⟩ := hm σ w hon ha.1.2.1
            have hlt : l.blk < w.heap.size := (Array.getElem?_eq_some_iff.1 hw).1
            refine ⟨w.putObj l.blk (.map (es'.map (reE σ)).toArray c), .value undef, undef, by simp [World.putObj], fun k hk => World.putObj_heap_other hk, rfl, rfl, rfl, ⟨by rw [World.putObj_heap_same hlt], hon'⟩, .inl rfl, ⟨undefV_on _, (undefV_re σ).symm⟩, ?_⟩
            rw [call_builtin ho, ha.2]
            have := hrun l.blk hw
            simp only [V.reL, V.re, Option.map_some, Ren.b_eq hl]
            simp only [builtin, Sem.run_bind, this, Result.andThen_ok, Sem.run_pure]
          split at hv
          · rename_i i v0 hf
            cases hv
            refine main _ fun σ w hon hk => ⟨fun e' he' => hon e' (List.mem_of_mem_eraseIdx he'), fun bl hw => ?_⟩
            have hck := fun em => keyOk_sound em 10 kt k hko hk 10000 w (by omega)
            have hfk := findKey_sound hk hf hon hku w
            simp only [Builtin.delete_, ht]
            simp only [List.size_toArray, List.getElem?_toArray, List.getElem?_cons_zero, List.getElem?_cons_succ, Sem.run_bind, run_underlying hu, Result.andThen_ok, run_getMap hw, hck, hfk, reF]
            rw [run_setMap hw]
            simp only [Result.andThen_ok, Sem.run_pure, undef]
            congr 3
            apply Array.ext'
            simp only [Array.eraseIdxIfInBounds]
            split
            · simp [map_eraseIdx]
            · rename_i hlt; rw [List.eraseIdx_of_length_le (by simpa using hlt)]
          · rename_i hf
            cases hv
            refine main _ fun σ w hon hk => ⟨hon, fun bl hw => ?_⟩
            have hck := fun em => keyOk_sound em 10 kt k hko hk 10000 w (by omega)
            have hfk := findKey_sound hk hf hon hku w
            simp only [Builtin.delete_, ht]
            simp only [List.size_toArray, List.getElem?_toArray, List.getElem?_cons_zero, List.getElem?_cons_succ, Sem.run_bind, run_underlying hu, Result.andThen_ok, run_getMap hw, hck, hfk, reF]
            rw [run_setMap hw]
            simp only [Result.andThen_ok, Sem.run_pure, undef]
          · cases hv
        · cases hv
      · cases hv
    · cases hv
  · cases hv

def rangeV (P : Program) (t : TypeId) (h : Heap) (x : V) : Option (O × List Nat) := match P.underlying t, x with
  | some (.map _ _), .map none => some (.iter none 0 [] 0, [])
  | some (.map _ _), .map (some b) => match h.get b with
    | some (.map _ c) => some (.iter (some b) c [] c, [b])
    | _ => none
  | _, _ => none
theorem ok_range {t : TypeId} {x : Operand} {vx : V} {it : O} {rs : List Nat} (ho : o.op = .range t x) (hx : evV tm x = some vx) (hv : rangeV P t h vx = some (it, rs)) : PrimOk P tm o h ⟨.ptr (some (h.n, 0)), h.push it, rs, []⟩ := by
  unfold rangeV at hv
  split at hv
  · rename_i kt et hu
    cases hv
    refine PrimOk.make rfl (fun H σ w ρ he hr hi hn => ?_)
    have h1 := he x (by simp [ho, Op.operands]) _ hx
    refine ⟨w, .mapIter none 0 #[] 0, 0, rfl, rfl, rfl, rfl, ⟨rfl, (fun r hr => (by cases hr)), by simp⟩, on_new _ _ _, ?_⟩
    simp only [execOp, ho, h1.2, V.re, Option.map_none, Option.map_some, Instr.range, Sem.run_bind, run_underlying hu, Result.andThen_ok, Sem.run_pure, reA_new]
    simp [run_newObj_alloc]
  · rename_i kt et b hu
    split at hv
    · rename_i es c hg
      cases hv
      refine PrimOk.make rfl (fun H σ w ρ he hr hi hn => ?_) (fun b' hb' => by simp at hb'; subst hb'; exact Heap.get_lt hg)
      have h1 := he x (by simp [ho, Op.operands]) _ hx
      obtain ⟨l, hl, hw, hon⟩ := map_rel hi (show H b = some (.map es c) by rw [hr b (by simp), hg])
      have hle := Ren.le_upd hn ⟨w.heap.size, 0, 0⟩
      refine ⟨w, .mapIter (some l.blk) c #[] c, 0, rfl, rfl, rfl, rfl, ⟨rfl, fun r hr => ?_, ?_⟩, on_new _ _ _, ?_⟩
      · cases hr; exact ⟨l, hle _ _ hl⟩
      · simp [Ren.b_eq (hle _ _ hl)]
      · simp only [execOp, ho, h1.2, V.re, Option.map_some, Instr.range, Sem.run_bind, run_underlying hu, Result.andThen_ok, Ren.b_eq hl, run_getMap hw, Sem.run_pure, reA_new]
        simp [run_newObj_alloc]
    · cases hv
  · cases hv

theorem iter_rel {H : HF} {σ : Ren} {w : World} (hi : Inv P H σ w) {b : Nat} {m : Option Nat} {since : Nat} {seen : List Nat} {stepped : Nat} (hg : H b = some (.iter m since seen stepped)) :
    ∃ l, σ b = some l ∧ l.sh = 0 ∧ (∀ r, m = some r → σ.is r) ∧ w.heap[l.blk]? = some (.mapIter (m.map σ.b) since seen.toArray stepped) := by
  obtain ⟨l, hl, h0, h1, h2⟩ := hi.rel b _ hg rfl
  exact ⟨l, hl, h0, h1, h2⟩
def leftE (seen : List Nat) (es : Ents) : Ents := es.filter fun e => !seen.contains e.2.2
def oldE (since : Nat) (l : Ents) : Ents := l.filter fun e => decide (e.2.2 < since)
def newE (since : Nat) (l : Ents) : Ents := l.filter fun e => decide (e.2.2 ≥ since)
def candE (since : Nat) (l : Ents) : List (Option (V × V × Nat)) := (if (oldE since l).isEmpty then [none] else []) ++ (oldE since l ++ newE since l).map some
theorem candE_pos (since : Nat) (l : Ents) : 0 < (candE since l).length := by
  unfold candE
  by_cases h : (oldE since l).isEmpty
  · simp [h]
  · have : 0 < (oldE since l).length := by
      rcases Nat.eq_zero_or_pos (oldE since l).length with h0 | h0
      · exact absurd (by simpa using List.length_eq_zero_iff.1 h0) h
      · exact h0
    simp; omega
theorem run_next {w : World} {r m : Nat} {t : TypeId} {σ : Ren} {es : Ents} {clock since stepped : Nat} {seen : List Nat} (hw : w.heap[r]? = some (.mapIter (some m) since seen.toArray stepped)) (hm : w.heap[m]? = some (.map (es.map (reE σ)).toArray clock))
    (hok : seen = [] ∨ es = [] ∨ ∃ e ∈ es, e.2.2 < stepped) : ∃ (n d : Nat) (c : Option (V × V × Nat)), (candE since (leftE seen es))[n]? = some c ∧ (Instr.next (.pointer (some ⟨r, 0, none⟩)) false t).run P w =
      match c with
      | some e => .ok (.tuple #[.bool true, e.1.re σ, e.2.1.re σ]) ({ w with drawn := d }.putObj r (.mapIter (some m) since (seen ++ [e.2.2]).toArray clock))
      | none => .ok (.tuple #[.bool false]) { w with drawn := d } := by
  have hleft : ((es.map (reE σ)).toArray.filter fun e => !seen.toArray.contains e.born) = ((leftE seen es).map (reE σ)).toArray := by
    apply Array.ext'
    simp [leftE, List.filter_map, Function.comp_def, reE]
    rfl
  have hcand : (if (((leftE seen es).map (reE σ)).toArray.filter fun e => decide (e.born < since)).isEmpty then #[none] else #[]) ++ ((((leftE seen es).map (reE σ)).toArray.filter fun e => decide (e.born < since)) ++ (((leftE seen es).map (reE σ)).toArray.filter fun e => decide (e.born ≥ since))).map some =
      ((candE since (leftE seen es)).map (Option.map (reE σ))).toArray := by
    have h1 : (((leftE seen es).map (reE σ)).toArray.filter fun e => decide (e.born < since)) = ((oldE since (leftE seen es)).map (reE σ)).toArray := by
      apply Array.ext'; simp [oldE, List.filter_map, Function.comp_def, reE]; rfl
    have h2 : (((leftE seen es).map (reE σ)).toArray.filter fun e => decide (e.born ≥ since)) = ((newE since (leftE seen es)).map (reE σ)).toArray := by
      apply Array.ext'; simp [newE, List.filter_map, Function.comp_def, reE]; rfl
    rw [h1, h2]
    apply Array.ext'
    unfold candE
    cases oldE since (leftE seen es) with
    | nil => simp [Function.comp_def]
    | cons a l => simp [Function.comp_def]
  have hguard : (!seen.toArray.isEmpty && !(es.map (reE σ)).toArray.isEmpty && (es.map (reE σ)).toArray.all fun e => decide (e.born ≥ stepped)) = false := by
    rcases hok with rfl | rfl | ⟨e, he, hlt⟩
    · simp
    · simp
    · simp only [Bool.and_eq_false_iff]
      right
      rw [← Bool.not_eq_true]
      intro hall
      rw [Array.all_eq_true'] at hall
      have := hall (reE σ e) (by simpa using ⟨_, _, _, he, rfl⟩)
      simp [reE] at this
      omega
  have hpos := candE_pos since (leftE seen es)
  have pick : ∀ (n : Nat) (d : Nat), n < (candE since (leftE seen es)).length → ∃ c, (candE since (leftE seen es))[n]? = some c ∧
      ((match ((candE since (leftE seen es)).map (Option.map (reE σ))).toArray[n]? with
        | some (some e) => (do
          setObj r (.mapIter (some m) since (seen.toArray.push e.born) clock)
          pure (.tuple #[.bool true, e.key, e.val]) : Sem Value)
        | some none => pure (.tuple #[.bool false])
        | none => stuck "Next: no such candidate").run P { w with drawn := d } = match c with
      | some e => .ok (.tuple #[.bool true, e.1.re σ, e.2.1.re σ]) ({ w with drawn := d }.putObj r (.mapIter (some m) since (seen ++ [e.2.2]).toArray clock))
      | none => .ok (.tuple #[.bool false]) { w with drawn := d }) := by
    intro n d hn
    refine ⟨(candE since (leftE seen es))[n], List.getElem?_eq_getElem hn, ?_⟩
    have : ((candE since (leftE seen es)).map (Option.map (reE σ))).toArray[n]? = some (((candE since (leftE seen es))[n]).map (reE σ)) := by simp [hn]
    rw [this]
    cases (candE since (leftE seen es))[n] with
    | none => rfl
    | some e =>
      have hw' : ({ w with drawn := d } : World).heap[r]? = some (.mapIter (some m) since seen.toArray stepped) := hw
      simp [Option.map_some, setObj, Sem.run, hw', World.putObj, reE]
  have hsz : ((candE since (leftE seen es)).map (Option.map (reE σ))).toArray.size = (candE since (leftE seen es)).length := by simp
  simp only [Instr.next, Sem.run_bind, getObj, Sem.run, hw, hm, Result.andThen_ok, hguard, Bool.false_eq_true, if_false, hleft, hcand, choose, Question.forced, hsz]
  by_cases h1 : (candE since (leftE seen es)).length ≤ 1
  · obtain ⟨c, hc, hr⟩ := pick 0 w.drawn hpos
    refine ⟨0, w.drawn, c, hc, ?_⟩
    simp only [h1, decide_true, if_true, Sem.run_pure, Result.andThen_ok]
    exact hr
  · obtain ⟨c, hc, hr⟩ := pick ((Question.mapNext (candE since (leftE seen es)).length).cut (w.tape w.drawn (.mapNext (candE since (leftE seen es)).length))) (w.drawn + 1) (Nat.mod_lt _ hpos)
    refine ⟨_, w.drawn + 1, c, hc, ?_⟩
    simp only [h1, decide_false, Bool.false_eq_true, if_false, Sem.run_pure, Result.andThen_ok]
    exact hr

def entryV (h : Heap) (b : Nat) : Option (V × List Nat) := match h.get b with
  | some (.iter (some m) _ seen stepped) => match seen.getLast?, h.get m with
    | some s, some (.map es c) => match Nat.beq c stepped with
      | true => match es.find? (fun e => Nat.beq e.2.2 s) with
        | some e => some (.tuple [e.1, e.2.1], [b, m])
        | none => none
      | false => none
    | _, _ => none
  | _ => none
theorem nat_beq_eq (a b : Nat) : (a == b) = Nat.beq a b := by
  cases h : Nat.beq a b with
  | true => simp [Nat.eq_of_beq_eq_true h]
  | false => simp; intro e; subst e; simp at h
theorem ok_entry {x : Operand} {b : Nat} {v : V} {rs : List Nat} (ho : o.op = .entry x) (hx : evV tm x = some (.ptr (some (b, 0)))) (hv : entryV h b = some (v, rs)) : PrimOk P tm o h ⟨v, h, rs, []⟩ := by
  unfold entryV at hv
  split at hv
  · rename_i m since seen stepped hg
    split at hv
    · rename_i s es c hl hgm
      split at hv
      · rename_i hc
        split at hv
        · rename_i e he
          cases hv
          refine PrimOk.read (fun H σ w ρ hev hr hi => ?_) (fun b' hb' => by
            rcases List.mem_cons.1 hb' with rfl | hb'
            · exact Heap.get_lt hg
            · simp at hb'; subst hb'; exact Heap.get_lt hgm)
          have h1 := hev x (by simp [ho, Op.operands]) _ hx
          obtain ⟨l, hl1, hls, hon, hw⟩ := iter_rel hi (show H b = some (.iter (some m) since seen stepped) by rw [hr b (by simp), hg])
          obtain ⟨lm, hlm, hwm, honm⟩ := map_rel hi (show H m = some (.map es c) by rw [hr m (by simp), hgm])
          have hw' : w.heap[l.blk]? = some (.mapIter (some lm.blk) since seen.toArray stepped) := by rw [hw]; simp [Ren.b_eq hlm]
          have hc' : (c != stepped) = false := by have := Nat.eq_of_beq_eq_true hc; simp [this]
          have hf : (es.map (reE σ)).toArray.find? (fun e => e.born == s) = some (reE σ e) := by
            have he' : es.find? (fun e => e.2.2 == s) = some e := by simpa only [nat_beq_eq] using he
            simp only [List.find?_toArray, List.find?_map]
            have : (fun (e : MapEntry) => e.born == s) ∘ reE σ = fun e => e.2.2 == s := rfl
            rw [this, he']; rfl
          have hen := honm e (List.mem_of_find?_eq_some he)
          refine ⟨⟨hen.1, hen.2, trivial⟩, ?_⟩
          simp only [execOp, ho, h1.2, V.re, Option.map_some, reA, Ren.b_eq hl1, Ren.s_eq hl1, hls, Nat.add_zero, Instr.entry, Sem.run_bind]
          simp only [getObj, Sem.run, hw', hwm, Result.andThen_ok, hc']
          have hb : seen.toArray.back? = some s := by simp [hl]
          have hce := Nat.eq_of_beq_eq_true hc
          simp [hb, hf, reE, V.reL, Sem.run, hwm, hce]
        · cases hv
      · cases hv
    · cases hv
  · cases hv

def okNext (seen : List Nat) (es : Ents) (stepped : Nat) : Bool := seen.isEmpty || es.isEmpty || es.any fun e => Nat.blt e.2.2 stepped
theorem okNext_sound {seen : List Nat} {es : Ents} {stepped : Nat} (h : okNext seen es stepped = true) : seen = [] ∨ es = [] ∨ ∃ e ∈ es, e.2.2 < stepped := by
  unfold okNext at h
  simp only [Bool.or_eq_true, List.isEmpty_iff, List.any_eq_true] at h
  rcases h with (h | h) | ⟨e, he, hb⟩
  · exact .inl h
  · exact .inr (.inl h)
  · exact .inr (.inr ⟨e, he, Nat.blt_eq.mp hb⟩)
def nextV (h : Heap) (b : Nat) : Option Pr := match h.get b with
  | some (.iter none _ _ _) => some ⟨.tuple [.bool false], h, [b], []⟩
  | some (.iter (some m) since seen stepped) => match h.get m with
    | some (.map es clock) => match okNext seen es stepped with
      | true => match candE since (leftE seen es) with
        | [none] => some ⟨.tuple [.bool false], h, [b, m], []⟩
        | [some e] => some ⟨.tuple [.bool true, e.1, e.2.1], h.set b (.iter (some m) since (seen ++ [e.2.2]) clock), [m], [b]⟩
        | _ => none
      | false => none
    | _ => none
  | _ => none
theorem ok_next {x : Operand} {b : Nat} {pr : Pr} (ho : o.op = .next x false) (hx : evV tm x = some (.ptr (some (b, 0)))) (hv : nextV h b = some pr) : PrimOk P tm o h pr := by
  unfold nextV at hv
  split at hv
  · rename_i since seen stepped hg
    cases hv
    refine PrimOk.read (fun H σ w ρ hev hr hi => ?_) (fun b' hb' => by simp at hb'; subst hb'; exact Heap.get_lt hg)
    have h1 := hev x (by simp [ho, Op.operands]) _ hx
    obtain ⟨l, hl, hls, _, hw⟩ := iter_rel hi (show H b = some (.iter none since seen stepped) by rw [hr b (by simp), hg])
    refine ⟨⟨trivial, trivial⟩, ?_⟩
    simp only [execOp, ho, h1.2, V.re, Option.map_some, reA, Ren.b_eq hl, Ren.s_eq hl, hls, Nat.add_zero]
    simp [Instr.next, getObj, Sem.run, hw, V.reL, V.re]
  · rename_i m since seen stepped hg
    split at hv
    · rename_i es clock hgm
      split at hv
      · rename_i hok
        have hok := okNext_sound hok
        have run : ∀ (H : HF) (σ : Ren) (w : World) (ρ : Operand → Value) (l : Loc), EvOn σ tm o ρ → σ b = some l → BRel P σ l (.iter (some m) since seen stepped) w.heap[l.blk]? → H m = h.get m → Inv P H σ w → ∃ (lm : Loc) (n d : Nat) (c : Option (V × V × Nat)), l.sh = 0 ∧ σ m = some lm ∧ (∀ e ∈ es, onE σ e) ∧ (∀ r, some m = some r → σ.is r) ∧ w.heap[l.blk]? = some (.mapIter (some lm.blk) since seen.toArray stepped) ∧
            (candE since (leftE seen es))[n]? = some c ∧ (execOp ρ o).run P w = (match c with
              | some e => .ok (.value (.tuple #[.bool true, e.1.re σ, e.2.1.re σ])) (({ w with drawn := d } : World).putObj l.blk (.mapIter (some lm.blk) since (seen ++ [e.2.2]).toArray clock))
              | none => .ok (.value (.tuple #[.bool false])) { w with drawn := d }) := by
          intro H σ w ρ l hev hl hB hm hi
          have h1 := hev x (by simp [ho, Op.operands]) _ hx
          obtain ⟨hls, hon, hw⟩ := hB
          obtain ⟨lm, hlm, hwm, honm⟩ := map_rel hi (show H m = some (.map es clock) by rw [hm, hgm])
          have hw' : w.heap[l.blk]? = some (.mapIter (some lm.blk) since seen.toArray stepped) := by rw [hw]; simp [Ren.b_eq hlm]
          obtain ⟨n, d, c, hc, hrun⟩ := run_next (P := P) (t := o.type) hw' hwm hok
          refine ⟨lm, n, d, c, hls, hlm, honm, hon, hw', hc, ?_⟩
          have hrun' : (execOp ρ o).run P w = ((Instr.next (.pointer (some ⟨l.blk, 0, none⟩)) false o.type).run P w).andThen fun v w' => .ok (.value v) w' := by
            simp only [execOp, ho, h1.2, V.re, Option.map_some, reA, Ren.b_eq hl, Ren.s_eq hl, hls, Nat.add_zero, Sem.run_bind, Sem.run_pure]
          rw [hrun', hrun]
          cases c <;> rfl
        split at hv
        · rename_i hcand
          cases hv
          have hlt : ∀ b', b' ∈ [b, m] → b' < h.n := fun b' hb' => by
            rcases List.mem_cons.1 hb' with rfl | hb'
            · exact Heap.get_lt hg
            · simp at hb'; subst hb'; exact Heap.get_lt hgm
          refine ⟨Nat.le_refl _, fun _ _ _ => rfl, fun b' hb' => by simp only [List.not_mem_nil, or_false] at hb'; exact hlt b' hb', fun H σ w ρ hev hr _ hi => ?_⟩
          obtain ⟨l, hl, hB⟩ := hi.rel b _ (show H b = some (.iter (some m) since seen stepped) by rw [hr b (.inl (by simp)), hg]) rfl
          obtain ⟨lm, n, d, c, hls, hlm, honm, hon, hw, hc, hrun⟩ := run H σ w ρ l hev hl hB (hr m (.inl (by simp))) hi
          have hcn : c = none := by
            rw [hcand] at hc
            cases n with
            | zero => simpa using hc.symm
            | succ n => simp at hc
          subst hcn
          refine ⟨σ, _, H, _, _, hrun, .inl rfl, ⟨⟨trivial, trivial⟩, by simp [V.re, V.reL]⟩, (Goes.refl hi (fun b hb => by dsimp only at hb; omega)).heap rfl rfl rfl rfl, fun b' hb' => by simp at hb'; omega⟩
        · rename_i e hcand
          cases hv
          have hmem : e ∈ es := by
            have : some e ∈ candE since (leftE seen es) := by rw [hcand]; simp
            simp only [candE, List.mem_append, List.mem_map, Option.some.injEq, exists_eq_right] at this
            rcases this with h | h | h
            · split at h <;> simp at h
            · simp only [oldE, leftE, List.mem_filter] at h; exact h.1.1
            · simp only [newE, leftE, List.mem_filter] at h; exact h.1.1
          refine PrimOk.write hg rfl rfl (fun H σ w ρ hev hr hi l hl hB => ?_) (fun b' hb' => by simp at hb'; subst hb'; exact Heap.get_lt hgm)
          obtain ⟨lm, n, d, c, hls, hlm, honm, hon, hw, hc, hrun⟩ := run H σ w ρ l hev hl hB (hr m (by simp)) hi
          have hcn : c = some e := by
            rw [hcand] at hc
            cases n with
            | zero => simpa using hc.symm
            | succ n => simp at hc
          subst hcn
          have hlt1 : l.blk < ({ w with drawn := d } : World).heap.size := (Array.getElem?_eq_some_iff.1 hw).1
          refine ⟨_, _, _, ?_, ?_, ?_, ?_, ?_, ?_, .inl rfl, ⟨⟨trivial, (honm e hmem).1, (honm e hmem).2, trivial⟩, by simp [V.re, V.reL]⟩, hrun⟩
          · simp [World.putObj]
          · intro k hk; exact World.putObj_heap_other hk
          · rfl
          · rfl
          · rfl
          · rw [World.putObj_heap_same hlt1]; exact ⟨hls, hon, by simp [Ren.b_eq hlm]⟩
        · cases hv
      · cases hv
    · cases hv
  · cases hv

def arrAtV (P : Program) (t : TypeId) (x : V) : Option V := match P.underlying t, x with
  | some (.array n _), .slice a len _ _ => match Nat.ble n len with
    | true => some (.ptr a)
    | false => none
  | _, _ => none
theorem ok_arrAt {t : TypeId} {x : Operand} {vx v : V} (ho : o.op = .sliceToArrayPointer t x) (hx : evV tm x = some vx) (hv : arrAtV P t vx = some v) : PrimOk P tm o h ⟨v, h, [], []⟩ :=
  PrimOk.pure fun σ w ρ he => by
    have h1 := he x (by simp [ho, Op.operands]) _ hx
    unfold arrAtV at hv
    split at hv
    · rename_i n e a len c ex hu
      split at hv
      · rename_i hb
        cases hv
        have hb' : ¬ len < n := by rw [Nat.ble_eq] at hb; omega
        cases a with
        | none => exact ⟨trivial, by simp [execOp, ho, h1.2, V.re, Instr.arrayAt, run_underlying hu, hb']⟩
        | some a => exact ⟨h1.1, by simp [execOp, ho, h1.2, V.re, Instr.arrayAt, run_underlying hu, hb']⟩
      · cases hv
    · cases hv
end Go.Vm
set_option linter.unusedVariables false
set_option linter.unusedSimpArgs false
namespace Go.Vm
variable {P : Program} {tm : Tm} {o : Oper} {h : Heap}

theorem goes_move {H : HF} {σ : Ren} {w w' : World} (hi : Inv P H σ w) {b n : Nat} {l : Loc} (hb : liveIn H b) (hl : σ b = some l) (hσ : σ n = none) (hH : H n = none) {o : O} (sh s : Nat) {N W : Nat → Prop} (hN : ∀ c, N c ↔ c = n) (hW : W b) (hd : o.isDead = false)
    (hsz : w'.heap.size = w.heap.size) (hoth : ∀ k, k ≠ l.blk → w'.heap[k]? = w.heap[k]?) (e2 : w'.os = w.os) (e3 : w'.tape = w.tape) (e4 : w'.output = w.output)
    (hr : BRel P (σ.upd n ⟨l.blk, sh, s⟩) ⟨l.blk, sh, s⟩ o w'.heap[l.blk]?) : Goes P N W H (HF.upd (HF.upd H b .dead) n o) σ (σ.upd n ⟨l.blk, sh, s⟩) w w' := by
  have hle := Ren.le_upd hσ ⟨l.blk, sh, s⟩
  have hbn : b ≠ n := fun e => by obtain ⟨x, hx, _⟩ := hb; rw [e, hH] at hx; cases hx
  have hlive : ∀ c, c ≠ n → liveIn (HF.upd (HF.upd H b .dead) n o) c → c ≠ b ∧ liveIn H c := fun c hc ⟨x, hx, hx'⟩ => by
    rw [HF.upd_ne _ _ hc] at hx
    by_cases e : c = b
    · subst e; rw [HF.upd_same] at hx; cases hx; cases hx'
    · rw [HF.upd_ne _ _ e] at hx; exact ⟨e, x, hx, hx'⟩
  obtain ⟨N0, hN0⟩ := hi.fin
  have hfin : ∃ N, ∀ c, N ≤ c → σ.upd n ⟨l.blk, sh, s⟩ c = none ∧ HF.upd (HF.upd H b .dead) n o c = none := ⟨max N0 (n + 1), fun c hc => by
    have hne : c ≠ n := by omega
    have h1 := hN0 c (by omega)
    have hne' : c ≠ b := fun e => by subst e; rw [hl] at h1; cases h1.1
    rw [Ren.upd_ne σ _ hne, HF.upd_ne _ _ hne, HF.upd_ne _ _ hne']; exact h1⟩
  refine ⟨hle, ?_, ⟨?_, ?_, hfin⟩, ?_, ?_, ?_, ?_, by omega, e2, e3, e4⟩
  · intro c m hm
    by_cases e : c = n
    · exact .inr ((hN c).2 e)
    · rw [Ren.upd_ne σ _ e] at hm; exact .inl hm
  · intro c x hc hx
    by_cases e : c = n
    · subst e
      rw [HF.upd_same] at hc; cases hc
      exact ⟨_, Ren.upd_same σ c _, hr⟩
    · obtain ⟨hcb, _⟩ := hlive c e ⟨x, hc, hx⟩
      rw [HF.upd_ne _ _ e, HF.upd_ne _ _ hcb] at hc
      obtain ⟨m, hm, hrel⟩ := hi.rel c x hc hx
      refine ⟨m, by rw [Ren.upd_ne σ _ e]; exact hm, ?_⟩
      rw [hoth m.blk fun he => hcb (hi.inj c b m l ⟨x, hc, hx⟩ hb hm hl he)]
      exact hrel.le hle
  · intro a c la lc ha hc hsa hsc he
    by_cases ea : a = n
    · by_cases ec : c = n
      · rw [ea, ec]
      · obtain ⟨hcb, hcl⟩ := hlive c ec hc
        subst ea; rw [Ren.upd_same] at hsa; cases hsa
        rw [Ren.upd_ne σ _ ec] at hsc
        exact absurd (hi.inj c b lc l hcl hb hsc hl he.symm) hcb
    · obtain ⟨hab, hal⟩ := hlive a ea ha
      rw [Ren.upd_ne σ _ ea] at hsa
      by_cases ec : c = n
      · subst ec; rw [Ren.upd_same] at hsc; cases hsc
        exact absurd (hi.inj a b la l hal hb hsa hl he) hab
      · obtain ⟨hcb, hcl⟩ := hlive c ec hc
        rw [Ren.upd_ne σ _ ec] at hsc
        exact hi.inj a c la lc hal hcl hsa hsc he
  · intro c hw hn
    rw [HF.upd_ne _ _ (show c ≠ n from fun e => hn ((hN c).2 e)), HF.upd_ne _ _ (show c ≠ b from fun e => hw (e ▸ hW))]
  · intro c hn hc; exact (hlive c (fun e => hn ((hN c).2 e)) hc).2
  · intro c m hn _ hs
    obtain rfl := (hN c).1 hn
    rw [Ren.upd_same] at hs; cases hs
    exact .inr ⟨b, l, hb, hW, fun h => hbn ((hN b).1 h), hl, rfl⟩
  · intro k hk hne
    exact hoth k fun e => hne b l hb hl e.symm hW
theorem goes_kill_push {H : HF} {σ : Ren} {w : World} (hi : Inv P H σ w) {b n : Nat} (hb : liveIn H b) (hσ : σ n = none) (hH : H n = none) {o : O} {o' : Obj} (s : Nat) {N W : Nat → Prop} (hN : ∀ c, N c ↔ c = n) (hW : W b)
    (hd : o.isDead = false) (hr : BRel P (σ.upd n ⟨w.heap.size, 0, s⟩) ⟨w.heap.size, 0, s⟩ o (some o')) :
    Goes P N W H (HF.upd (HF.upd H b .dead) n o) σ (σ.upd n ⟨w.heap.size, 0, s⟩) w (w.alloc o') := by
  have hbn : b ≠ n := fun e => by obtain ⟨x, hx, _⟩ := hb; rw [e, hH] at hx; cases hx
  have hlive : ∀ c, liveIn (HF.upd H b .dead) c → liveIn H c := fun c ⟨x, hx, hx'⟩ => by
    by_cases e : c = b
    · subst e; exact hb
    · exact ⟨x, by rwa [HF.upd_ne H _ e] at hx, hx'⟩
  have hi' : Inv P (HF.upd H b .dead) σ w := ⟨fun c x hc hx => by
      by_cases e : c = b
      · subst e; rw [HF.upd_same] at hc; cases hc; cases hx
      · rw [HF.upd_ne H _ e] at hc; exact hi.rel c x hc hx, fun a c la lc ha hc => hi.inj a c la lc (hlive a ha) (hlive c hc), let ⟨N0, hN0⟩ := hi.fin; ⟨N0, fun c hc => ⟨(hN0 c hc).1, by
      have hne' : c ≠ b := fun e => by subst e; obtain ⟨x, hx, hx'⟩ := hb; rw [(hN0 c hc).2] at hx; cases hx
      rw [HF.upd_ne H _ hne']; exact (hN0 c hc).2⟩⟩⟩
  have g := goes_push (W := W) hi' hσ (by rw [HF.upd_ne H _ (Ne.symm hbn)]; exact hH) s hN hd hr
  exact { g with
    virt := fun c hw hn => by rw [g.virt c hw hn, HF.upd_ne H _ (show c ≠ b from fun e => hw (e ▸ hW))]
    dead := fun c hn hc => hlive c (g.dead c hn hc)
    fresh := fun c m hn hc hs => (g.fresh c m hn hc hs).imp id fun ⟨a, la, h1, h2⟩ => ⟨a, la, hlive a h1, h2⟩
    real := fun k hk hne => g.real k hk fun c m hc hs he => hne c m (hlive c hc) hs he }

def srcOk (P : Program) (t : TypeId) : Bool := match P.underlying t with
  | some (.slice _) => true
  | some .string => true
  | _ => false
def AppSrc (P : Program) (u : TypeId) (i : TypeInfo) (x : Value) (n : Nat) (news : Array Value) (w w' : World) : Prop :=
  (srcOk P u = true ∧ (Builtin.lenOf x).run P w = .ok n w ∧ (Builtin.firstCells i.size n x).run P w' = .ok news w') ∨
  (∃ k z, P.underlying u = some (.int k) ∧ x = .int .i64 (n : Int) ∧ n ≤ 9223372036854775807 ∧ n * i.bytes ≤ 140737488355328 ∧ i.zero = some z ∧ news = if n * i.size = 0 then #[] else Builtin.zeroCells z.cells n)
theorem wrap_nat {n : Nat} (h : n ≤ 9223372036854775807) : IntKind.i64.wrap (n : Int) = (n : Int) := by
  rw [IntKind.wrap_i64]; omega
theorem run_append_in {t u ty e : TypeId} {i : TypeInfo} (ht : P.underlying t = some (.slice e)) (hi : P.info? e = some i) {a : Addr} {sLen sCap n : Nat} {x : Value} {w w' : World} {news : Array Value}
    (hs : AppSrc P u i x n news w w) (hroom : sLen + n ≤ sCap) (hst : (storeCells (a.add (sLen * i.size)) news.toList).run P w = .ok () w') :
    (Builtin.append_ #[t, u] ty #[.slice (some a) sLen sCap, x]).run P w = .ok (.slice (some a) (sLen + n) sCap) w' := by
  rcases hs with ⟨hu, hl, hf⟩ | ⟨k, z, hu', rfl, h63, hb, hz, rfl⟩
  · unfold srcOk at hu
    split at hu
    · rename_i hu'; simp [Builtin.append_, run_underlying ht, run_underlying hu', sizeOf, typeInfo, hi, hl, hroom, hf, hst]
    · rename_i hu'; simp [Builtin.append_, run_underlying ht, run_underlying hu', sizeOf, typeInfo, hi, hl, hroom, hf, hst]
    · cases hu
  · have h1 : ¬ ((n : Int) < 0) := by omega
    have h2 : ¬ (281474976710656 < (n : Int) * (i.bytes : Int)) := by
      have := Int.ofNat_le.2 hb
      rw [Int.natCast_mul] at this
      omega
    by_cases h0 : n * i.size = 0
    · rw [if_pos h0] at hst
      simp [Builtin.append_, run_underlying ht, run_underlying hu', sizeOf, typeInfo, zeroValue, hi, hz, hroom, asInt, asIntOf, wrap_nat h63, h1, h2, h0] at hst ⊢
      simp [hst]
    · rw [if_neg h0] at hst
      simp [Builtin.append_, run_underlying ht, run_underlying hu', sizeOf, typeInfo, zeroValue, hi, hz, hroom, asInt, asIntOf, wrap_nat h63, h1, h2, h0]
      simp [hst]
theorem run_append_in_nil {t u ty e : TypeId} {i : TypeInfo} (ht : P.underlying t = some (.slice e)) (hi : P.info? e = some i) {sLen sCap n : Nat} {x : Value} {w : World} {news : Array Value}
    (hs : AppSrc P u i x n news w w) (hroom : sLen + n ≤ sCap) :
    (Builtin.append_ #[t, u] ty #[.slice none sLen sCap, x]).run P w = .ok (.slice none (sLen + n) sCap) w := by
  rcases hs with ⟨hu, hl, hf⟩ | ⟨k, z, hu', rfl, h63, hb, hz, rfl⟩
  · unfold srcOk at hu
    split at hu
    · rename_i hu'; simp [Builtin.append_, run_underlying ht, run_underlying hu', sizeOf, typeInfo, hi, hl, hroom, hf]
    · rename_i hu'; simp [Builtin.append_, run_underlying ht, run_underlying hu', sizeOf, typeInfo, hi, hl, hroom, hf]
    · cases hu
  · have h1 : ¬ ((n : Int) < 0) := by omega
    have h2 : ¬ (281474976710656 < (n : Int) * (i.bytes : Int)) := by
      have := Int.ofNat_le.2 hb
      rw [Int.natCast_mul] at this
      omega
    by_cases h0 : n * i.size = 0
    · simp [Builtin.append_, run_underlying ht, run_underlying hu', sizeOf, typeInfo, zeroValue, hi, hz, hroom, asInt, asIntOf, wrap_nat h63, h1, h2, h0]
    · simp [Builtin.append_, run_underlying ht, run_underlying hu', sizeOf, typeInfo, zeroValue, hi, hz, hroom, asInt, asIntOf, wrap_nat h63, h1, h2, h0]
theorem run_append_out {t u ty e : TypeId} {i : TypeInfo} {z : Value} (ht : P.underlying t = some (.slice e)) (hi : P.info? e = some i) (hz : i.zero = some z) {s : Option Addr} {sLen sCap n : Nat} {x : Value} {w : World} {olds news : Array Value}
    (hs : AppSrc P u i x n news w w.drew) (hfo : (Builtin.firstCells i.size sLen (.slice s sLen sCap)).run P w.drew = .ok olds w.drew)
    (hg : sCap < sLen + n) (h63 : ((sLen + n : Nat) : Int) ≤ 9223372036854775807) (hfit : (sLen + n) * i.bytes ≤ 140737488355328) :
    (Builtin.append_ #[t, u] ty #[.slice s sLen sCap, x]).run P w =
      .ok (.slice (some ⟨w.heap.size, 0, none⟩) (sLen + n) (grownCap w (sLen + n) sCap e))
        (w.drew.alloc (.cells (olds ++ news ++ Builtin.zeroCells z.cells (grownCap w (sLen + n) sCap e - (sLen + n))) e)) := by
  have hn : ¬ (sLen + n ≤ sCap) := by omega
  have h63' : ¬ (9223372036854775807 < ((sLen : Int) + (n : Int))) := by omega
  have h48' : ¬ (281474976710656 < Builtin.nextslicecap (sLen + n) sCap * i.bytes) := by have := growslice_fits hg hfit; omega
  rcases hs with ⟨hu, hl, hf⟩ | ⟨k, z', hu', rfl, h63n, hb, hz', rfl⟩
  · unfold srcOk at hu
    split at hu
    · rename_i hu'
      simp [Builtin.append_, run_underlying ht, run_underlying hu', sizeOf, typeInfo, zeroValue, hi, hz, hl, hn, h63', h48', Question.forced, hf, hfo, newRow, grownCap]
    · rename_i hu'
      simp [Builtin.append_, run_underlying ht, run_underlying hu', sizeOf, typeInfo, zeroValue, hi, hz, hl, hn, h63', h48', Question.forced, hf, hfo, newRow, grownCap]
    · cases hu
  · obtain rfl : z = z' := by rw [hz] at hz'; cases hz'; rfl
    have h1 : ¬ ((n : Int) < 0) := by omega
    have h2 : ¬ (281474976710656 < (n : Int) * (i.bytes : Int)) := by
      have := Int.ofNat_le.2 hb
      rw [Int.natCast_mul] at this
      omega
    by_cases h0 : n * i.size = 0
    · simp [Builtin.append_, run_underlying ht, run_underlying hu', sizeOf, typeInfo, zeroValue, hi, hz, hn, h63', h48', Question.forced, asInt, asIntOf, wrap_nat h63n, h1, h2, h0, hfo, newRow, grownCap]
    · simp [Builtin.append_, run_underlying ht, run_underlying hu', sizeOf, typeInfo, zeroValue, hi, hz, hn, h63', h48', Question.forced, asInt, asIntOf, wrap_nat h63n, h1, h2, h0, hfo, newRow, grownCap]

def appendIn (h : Heap) (base : Option (Nat × Nat)) (sLen sCap : Nat) (ex : Bool) (size n : Nat) (news : List V) (rs : List Nat) : Option Pr := match base with
  | none => some ⟨.slice none (sLen + n) sCap true, h, rs, []⟩
  | some (b, off) => match h.get b with
    | some (.cells c ce) => match Nat.ble (off + sLen * size + news.length) c.size with
      | true => match allOne news with
        | true => match c.ro with
          | false => some ⟨.slice (some (b, off)) (sLen + n) sCap ex, h.set b (.cells (c.putA (off + sLen * size) news) ce), rs, [b]⟩
          | true => none
        | false => none
      | false => none
    | _ => none
def appendOut (h : Heap) (e : TypeId) (base : Option (Nat × Nat)) (sCap : Nat) (ex : Bool) (size need : Nat) (olds news : List V) (rs : List Nat) : Option Pr := match base, ex with
  | some (b, off), false => match h.get b with
    | some (.cells c ce) => match Nat.beq ce e with
      | true => match Nat.beq (off + sCap * size) c.size with
        | true => match allOne news with
          | true => match c.ro with
            | false => some ⟨.slice (some (h.n, 0)) need need false, (h.set b .dead).push (.cells (Blk.of (olds ++ news)) e), rs, [b]⟩
            | true => none
          | false => none
        | false => none
      | false => none
    | _ => none
  | _, _ => some ⟨.slice (some (h.n, 0)) need need false, h.push (.cells (Blk.of (olds ++ news)) e), rs, []⟩
def appSrcV (P : Program) (u : TypeId) (i : TypeInfo) (z : V) (x : V) (h : Heap) : Option (Nat × List V × List Nat) := match srcOk P u with
  | true => match lenOfV x with
    | some n => match firstV h i.size n x with
      | some (news, rs) => some (n, news, rs)
      | none => none
    | none => none
  | false => match P.underlying u with
    | some (.int _) => match x with
      | .int .i64 k => if 0 ≤ k then match z.cellsV with
        | [z0] => match Nat.beq i.size 1, Nat.ble k.toNat 9223372036854775807, Nat.ble (k.toNat * i.bytes) 140737488355328 with
          | true, true, true => some (k.toNat, List.replicate k.toNat z0, [])
          | _, _, _ => none
        | _ => none
        else none
      | _ => none
    | _ => none
theorem appSrcV_lt {u : TypeId} {i : TypeInfo} {z x : V} {n : Nat} {news : List V} {rs : List Nat} (hv : appSrcV P u i z x h = some (n, news, rs)) : ∀ b ∈ rs, b < h.n := by
  unfold appSrcV at hv
  split at hv
  · split at hv
    · split at hv
      · rename_i hf; cases hv; exact firstV_lt hf
      · cases hv
    · cases hv
  · (repeat' (split at hv)) <;> cases hv
    simp
theorem run_appSrc {H : HF} {σ : Ren} {w w' : World} {u : TypeId} {i : TypeInfo} {z x : V} {n : Nat} {news : List V} {rs : List Nat} (hv : appSrcV P u i z x h = some (n, news, rs)) (hz : i.zero = some (z.re σ)) (hzo : z.on σ)
    (hr : ∀ b ∈ rs, H b = h.get b) (hi : Inv P H σ w') : V.onL σ news ∧ AppSrc P u i (x.re σ) n (V.reL σ news).toArray w w' := by
  unfold appSrcV at hv
  split at hv
  · rename_i hu
    split at hv
    · rename_i n' hl
      split at hv
      · rename_i news' rs' hf
        cases hv
        have h2 := run_firstV (w := w') hf hr hi
        exact ⟨h2.1, .inl ⟨hu, run_lenOfV hl w, h2.2⟩⟩
      · cases hv
    · cases hv
  · split at hv
    · rename_i k hu
      split at hv
      · rename_i m
        split at hv
        · rename_i h0
          split at hv
          · rename_i z0 hz0
            split at hv
            · rename_i hs h63 hb
              cases hv
              have hs := Nat.eq_of_beq_eq_true hs
              have hzc : (z.re σ).cells = #[z0.re σ] := by rw [cellsV_re, hz0]; simp [V.reL_eq]
              have ho : z0.on σ := cellsV_on hzo z0 (by rw [hz0]; simp)
              refine ⟨(V.onL_iff _ _).2 fun v hv => by rw [(List.mem_replicate.1 hv).2]; exact ho, .inr ⟨k, z.re σ, hu, ?_, Nat.le_of_ble_eq_true h63, Nat.le_of_ble_eq_true hb, hz, ?_⟩⟩
              · simp only [V.re]; congr 1; omega
              · rw [hzc, hs]
                by_cases hn0 : m.toNat * 1 = 0
                · rw [if_pos hn0]
                  have : m.toNat = 0 := by omega
                  simp [this, V.reL_eq]
                · rw [if_neg hn0]
                  apply Array.ext
                  · simp [Builtin.zeroCells, V.reL_eq]
                  · intro j h1 h2
                    simp [Builtin.zeroCells, V.reL_eq, Nat.mod_one]
            · cases hv
          · cases hv
        · cases hv
      · cases hv
    · cases hv
def appendV (P : Program) (t u : TypeId) (s x : V) (h : Heap) : Option Pr := match P.underlying t with
  | some (.slice e) => match P.info? e, zeroV P e with
    | some i, some z => match s with
      | .slice base sLen sCap ex => match appSrcV P u i z x h with
        | some (n, news, rs) => match Nat.beq news.length (n * i.size) with
          | true => match Nat.ble (sLen + n) sCap with
            | true => appendIn h base sLen sCap ex i.size n news rs
            | false => match firstV h i.size sLen s with
              | some (olds, rs') => match Nat.beq olds.length (sLen * i.size), Nat.beq z.cellsV.length i.size, Nat.ble ((sLen + n) * i.bytes) 140737488355328, Nat.ble (sLen + n) 9223372036854775807 with
                | true, true, true, true => appendOut h e base sCap ex i.size (sLen + n) olds news (rs ++ rs')
                | _, _, _, _ => none
              | none => none
          | false => none
        | none => none
      | .esl a => match appSrcV P u i z x h with
        | some (0, [], rs) => some ⟨.esl a, h, rs, []⟩
        | _ => none
      | _ => none
    | _, _ => none
  | _ => none

theorem grownCap_ge (w : World) (need old : Nat) (e : TypeId) : need ≤ grownCap w need old e := by
  unfold grownCap Question.cut; exact Nat.le_add_right _ _

theorem brel_app {σ : Ren} {k s : Nat} {vs : List V} {zs : Array Value} {e : TypeId} (hz : zs.size = s * P.cellsOf e) (hon : ∀ v ∈ vs, v.on σ) : BRel P σ ⟨k, 0, s⟩ (.cells (Blk.of vs) e) (some (.cells ((V.reL σ vs).toArray ++ zs) e (0, 0))) := by
  refine ⟨_, ⟨_, fun _ => .inl rfl, rfl⟩, by simp [Blk.of, V.reL_eq, hz], fun i hi => ?_⟩
  have hi' : i < vs.length := hi
  rw [Blk.get_of vs i hi']
  have : vs.getD i undefV = vs[i] := by simp [List.getD, List.getElem?_eq_getElem hi']
  rw [this]
  refine ⟨hon _ (List.getElem_mem _), ?_⟩
  rw [Nat.zero_add, Array.getElem?_append_left (by simpa [V.reL_eq] using hi')]
  simp [V.reL_eq, List.getElem?_eq_getElem hi']

theorem ok_append {args : Array Operand} {t u : TypeId} {s x : V} {pr : Pr} (ho : o.op = .call { callee := .builtin .append, args, argTypes := #[t, u] }) (hx : evVs tm args.toList = some [s, x])
    (hv : appendV P t u s x h = some pr) : PrimOk P tm o h pr := by
  unfold appendV at hv
  split at hv
  · rename_i e ht
    split at hv
    · rename_i i z hi hz
      have hzre : ∀ σ : Ren, z.on σ ∧ i.zero = some (z.re σ) := by
        intro σ
        unfold zeroV at hz
        simp only [hi] at hz
        split at hz
        · rename_i zz hzz
          rw [hzz, ((toV_both _).1 zz z hz σ).2]
          exact ⟨((toV_both _).1 zz z hz σ).1, rfl⟩
        · cases hz
      split at hv
      · rename_i base sLen sCap ex
        split at hv
        · rename_i n news rs hf
          split at hv
          · rename_i hlen
            have hlen : news.length = n * i.size := Nat.eq_of_beq_eq_true hlen
            have hcells : P.cellsOf e = i.size := by simp [Program.cellsOf, hi]
            -- the whole operation out of the builtin's run
            have whole : ∀ {ρ : Operand → Value} {σ : Ren} {w w' : World} {v : Value}, EvOn σ tm o ρ → (Builtin.append_ #[t, u] o.type #[(V.slice base sLen sCap ex).re σ, x.re σ]).run P w = .ok v w' → (execOp ρ o).run P w = .ok (.value v) w' := by
              intro ρ σ w w' v he hr
              have ha := args_re ho he hx
              rw [call_builtin ho, ha.2]
              simp only [builtin, V.reL, Sem.run_bind, hr, Result.andThen_ok, Sem.run_pure]
            have hbase : ∀ {ρ : Operand → Value} {σ : Ren}, EvOn σ tm o ρ → (V.slice base sLen sCap ex).on σ ∧ x.on σ := by
              intro ρ σ he
              have ha := (args_re ho he hx).1
              exact ⟨ha.1, ha.2.1⟩
            split at hv
            · rename_i hroom
              have hroom : sLen + n ≤ sCap := Nat.le_of_ble_eq_true hroom
              unfold appendIn at hv
              split at hv
              · cases hv
                refine PrimOk.read (fun H σ w ρ he hr hI => ⟨trivial, ?_⟩) (appSrcV_lt hf)
                have h2 := run_appSrc (w := w) hf (hzre σ).2 (hzre σ).1 hr hI
                exact whole he (run_append_in_nil ht hi h2.2 hroom)
              · rename_i b off
                split at hv
                · rename_i c ce hg
                  split at hv
                  · rename_i hle
                    split at hv
                    · rename_i hone
                      split at hv
                      case h_2 => cases hv
                      rename_i hro
                      cases hv
                      refine PrimOk.write hg rfl rfl (fun H σ w ρ he hr hI l hl hB => ?_) (appSrcV_lt hf)
                      have h2 := run_appSrc (w := w) hf (hzre σ).2 (hzre σ).1 hr hI
                      obtain ⟨w', hrun, e1, e2, e3, e4, e5, hB'⟩ := storeCells_rel hl hB hro (off + sLen * i.size) news (Nat.le_of_ble_eq_true hle) (allOne_mem hone) ((V.onL_iff _ _).1 h2.1)
                      refine ⟨w', _, _, e1, e2, e3, e4, e5, hB', .inl rfl, ⟨(hbase he).1, rfl⟩, ?_⟩
                      refine whole he ?_
                      have hroom' : sLen + n ≤ (if ex then sCap else sCap + σ.k b) := by split <;> omega
                      have := run_append_in (ty := o.type) (a := reA σ (b, off)) ht hi h2.2 hroom' (w' := w') (by rw [addr_add]; simpa [V.reL_eq] using hrun)
                      simpa [V.re] using this
                    · cases hv
                  · cases hv
                · cases hv
            · rename_i hroom
              have hroom : sCap < sLen + n := by
                rcases Nat.lt_or_ge sCap (sLen + n) with h' | h'
                · exact h'
                · rw [Nat.ble_eq_true_of_le h'] at hroom; cases hroom
              split at hv
              · rename_i olds rs' hfo
                split at hv
                · rename_i holen hzl hfit h63
                  have holen : olds.length = sLen * i.size := Nat.eq_of_beq_eq_true holen
                  have hzl : z.cellsV.length = i.size := Nat.eq_of_beq_eq_true hzl
                  have hfit := Nat.le_of_ble_eq_true hfit
                  have h63 : (((sLen + n : Nat) : Int)) ≤ 9223372036854775807 := by have := Nat.le_of_ble_eq_true h63; omega
                  have hzero : ∀ σ : Ren, i.zero = some (z.re σ) := fun σ => (hzre σ).2
                  have hzsz : ∀ (σ : Ren) (m : Nat), (Builtin.zeroCells (z.re σ).cells m).size = m * P.cellsOf e := by
                    intro σ m; rw [size_zeroCells, cellsV_re]; simp [hzl, hcells]
                  unfold appendOut at hv
                  split at hv
                  · rename_i b off
                    split at hv
                    · rename_i c ce hg
                      split at hv
                      · rename_i hce
                        have hce : ce = e := Nat.eq_of_beq_eq_true hce
                        subst hce
                        split at hv
                        · rename_i hend
                          have hend : off + sCap * i.size = c.size := Nat.eq_of_beq_eq_true hend
                          split at hv
                          · rename_i hone
                            split at hv
                            case h_2 => cases hv
                            rename_i hro
                            cases hv
                            have hbn := Heap.get_lt hg
                            refine ⟨by simp, fun d hd hw => by rw [Heap.get_push, if_neg (by simp; omega), Heap.get_set h b d _ hbn, if_neg (by simpa using hw)], fun d hd => by
                              rcases hd with hd | hd
                              · exact (List.mem_append.1 hd).elim (appSrcV_lt hf d) (firstV_lt hfo d)
                              · simp at hd; subst hd; exact hbn, fun H σ w ρ he hr hfr hI => ?_⟩
                            have hHb : H b = some (.cells c ce) := by rw [hr b (.inr (by simp)), hg]
                            have hfn := hfr h.n (Nat.le_refl _) (by simp)
                            have hnew : ∀ d, (h.n ≤ d ∧ d < ((h.set b .dead).push (.cells (Blk.of (olds ++ news)) ce)).n) ∨ d ∈ [b] → HF.upd (HF.upd H b .dead) h.n (.cells (Blk.of (olds ++ news)) ce) d = ((h.set b .dead).push (.cells (Blk.of (olds ++ news)) ce)).get d := by
                              intro d hd
                              rw [Heap.get_push]
                              by_cases ed : d = h.n
                              · subst ed; rw [HF.upd_same]; simp
                              · have : d = b := by simp at hd; omega
                                subst this
                                rw [HF.upd_ne _ _ ed, HF.upd_same, if_neg (by simpa using ed), Heap.get_set h d d _ hbn, if_pos rfl]
                            have hNn : ∀ d, (h.n ≤ d ∧ d < ((h.set b .dead).push (.cells (Blk.of (olds ++ news)) ce)).n) ↔ d = h.n := fun d => by simp; omega
                            obtain ⟨l, hl, hB⟩ := hI.rel b _ hHb rfl
                            have hB0 := hB
                            obtain ⟨arr, ⟨fz, hfz, ha⟩, hsz, hc⟩ := hB
                            have hfz := hfz hro
                            have hrs : ∀ d ∈ rs, H d = h.get d := fun d hd => hr d (.inl (by simp [hd]))
                            have hrs' : ∀ d ∈ rs', H d = h.get d := fun d hd => hr d (.inl (by simp [hd]))
                            have h2 := run_appSrc (w := w) hf (hzre σ).2 (hzre σ).1 hrs hI
                            have h3 := run_firstV (w := w) hfo hrs' hI
                            have hk : σ.k b = l.slk := Ren.k_eq hl
                            by_cases hreal : sLen + n ≤ sCap + l.slk
                            · -- in place
                              have hcap : sCap + l.slk - (sLen + n) + (sLen + n) = sCap + l.slk := by omega
                              have hnl : (V.reL σ news).length = n * i.size := by simp [V.reL_eq, hlen]
                              have hmul : (sLen + n) * i.size ≤ (sCap + l.slk) * i.size := Nat.mul_le_mul_right _ hreal
                              have hstore := run_storeCells_fz (P := P) l.blk (l.sh + (off + sLen * i.size)) ce hfz (V.reL σ news) 0 arr w rfl ha (by rw [hnl, hsz, hcells]; simp only [Nat.add_mul] at hmul ⊢; omega) (fun v hv' => by
                                rw [V.reL_eq] at hv'
                                obtain ⟨y, hy, rfl⟩ := List.mem_map.1 hv'
                                exact one_re (allOne_mem hone y hy))
                              have hA : reA σ (b, off + sLen * i.size) = ⟨l.blk, l.sh + (off + sLen * i.size), none⟩ := by simp [reA, Ren.b_eq hl, Ren.s_eq hl]
                              have hle := Ren.le_upd hfn.1 ⟨l.blk, l.sh + off, sCap + l.slk - (sLen + n)⟩
                              have hrun := run_append_in (ty := o.type) (a := reA σ (b, off)) (sCap := sCap + l.slk) ht hi h2.2 hreal (by rw [addr_add, hA]; exact hstore)
                              have honO : ∀ v ∈ olds ++ news, v.on (σ.upd h.n ⟨l.blk, l.sh + off, sCap + l.slk - (sLen + n)⟩) := by
                                intro v hv'
                                rcases List.mem_append.1 hv' with hv' | hv'
                                · exact (V.on_le hle v ((V.onL_iff _ _).1 h3.1 v hv')).1
                                · exact (V.on_le hle v ((V.onL_iff _ _).1 h2.1 v hv')).1
                              refine ⟨_, _, _, _, _, whole he (by simpa [V.re, hk] using hrun), .inl rfl, ⟨on_new _ _ _, ?_⟩, goes_move hI ⟨_, hHb, rfl⟩ hl hfn.1 hfn.2 (l.sh + off) (sCap + l.slk - (sLen + n)) hNn (by simp) rfl (by simp) (fun k hk => setRow_other w _ k _ hk) rfl rfl rfl ?_, hnew⟩
                              · simp only [V.re, reA_new, Ren.k_eq (Ren.upd_same σ h.n _), Bool.false_eq_true, if_false]
                                simp [reA, Ren.b_eq hl, Ren.s_eq hl]; omega
                              · rw [setRow_heap w l.blk arr _ ce fz ha]
                                have hcut : l.sh + (off + sLen * i.size) + 0 + (V.reL σ news).length ≤ arr.size := by rw [hnl, hsz, hcells]; simp only [Nat.add_mul] at hmul ⊢; omega
                                refine ⟨_, ⟨fz, fun _ => hfz.of_size (by simp; omega), rfl⟩, ?_, fun j hj => ?_⟩
                                · simp [Blk.of, holen, hlen, hsz, hcells, V.reL_eq]
                                  have : (sCap + l.slk - (sLen + n)) * i.size = (sCap + l.slk) * i.size - (sLen + n) * i.size := Nat.sub_mul _ _ _
                                  rw [this]
                                  simp only [Nat.add_mul] at hmul ⊢
                                  omega
                                · have hj' : j < (olds ++ news).length := hj
                                  have hjl : j < sLen * i.size + n * i.size := by simpa [holen, hlen] using hj'
                                  rw [Blk.get_of _ j hj']
                                  have hgd : (olds ++ news).getD j undefV = (olds ++ news)[j] := by simp [List.getD, List.getElem?_eq_getElem hj']
                                  rw [hgd]
                                  have hon1 := honO _ (List.getElem_mem hj')
                                  refine ⟨hon1, ?_⟩
                                  dsimp only
                                  rw [List.getElem?_toArray, ← List.append_assoc, splice_get _ _ _ _ (by rw [hnl]; simp; rw [hsz, hcells]; simp only [Nat.add_mul] at hmul ⊢; omega), hnl]
                                  by_cases hjo : j < olds.length
                                  · rw [if_neg (by omega), List.getElem_append_left hjo]
                                    have hov := (V.onL_iff _ _).1 h3.1 _ (List.getElem_mem hjo)
                                    rw [(V.on_le hle _ hov).2, Array.getElem?_toList, Nat.add_assoc]
                                    -- the old cells are those of the block
                                    have hge : off + sLen * i.size ≤ c.size ∧ olds = c.gets off (sLen * i.size) := by
                                      unfold firstV at hfo
                                      simp only [hg] at hfo
                                      split at hfo
                                      · rename_i hb1; cases hfo; exact ⟨Nat.le_of_ble_eq_true hb1, rfl⟩
                                      · cases hfo
                                    have := Blk.gets_get c (sLen * i.size) off j (by omega)
                                    rw [← hge.2, List.getElem?_eq_getElem hjo, Option.some.injEq] at this
                                    rw [this]
                                    exact (hc (off + j) (by omega)).2
                                  · rw [if_pos (by omega), List.getElem_append_right (by omega)]
                                    have hjn : j - olds.length < news.length := by omega
                                    have hov := (V.onL_iff _ _).1 h2.1 _ (List.getElem_mem hjn)
                                    rw [(V.on_le hle _ hov).2, V.reL_eq, List.getElem?_map]
                                    rw [show l.sh + off + j - (l.sh + (off + sLen * i.size)) = j - olds.length by omega, List.getElem?_eq_getElem hjn]
                                    rfl
                            · -- a new array
                              have hI' : Inv P H σ w.drew := hI.heap rfl
                              have h2' := run_appSrc (w := w) (w' := w.drew) hf (hzre σ).2 (hzre σ).1 hrs hI'
                              have h3' := run_firstV (w := w.drew) hfo hrs' hI'
                              have hrun := run_append_out (ty := o.type) (s := some (reA σ (b, off))) (sCap := sCap + l.slk) ht hi (hzero σ) h2'.2 (by simpa [V.re, hk] using h3'.2) (by omega) h63 hfit
                              have hgc := grownCap_ge w (sLen + n) (sCap + l.slk) ce
                              have hle := Ren.le_upd hfn.1 ⟨w.drew.heap.size, 0, grownCap w (sLen + n) (sCap + l.slk) ce - (sLen + n)⟩
                              have honO : ∀ v ∈ olds ++ news, v.on σ := by
                                intro v hv'
                                rcases List.mem_append.1 hv' with hv' | hv'
                                · exact (V.onL_iff _ _).1 h3.1 v hv'
                                · exact (V.onL_iff _ _).1 h2.1 v hv'
                              have hre : V.reL (σ.upd h.n ⟨w.drew.heap.size, 0, grownCap w (sLen + n) (sCap + l.slk) ce - (sLen + n)⟩) (olds ++ news) = V.reL σ olds ++ V.reL σ news := by
                                rw [(V.onL_le hle _ ((V.onL_iff _ _).2 honO)).2]; simp [V.reL_eq]
                              have g := goes_kill_push (N := fun d => h.n ≤ d ∧ d < ((h.set b .dead).push (.cells (Blk.of (olds ++ news)) ce)).n) (W := (· ∈ [b])) hI' ⟨_, hHb, rfl⟩ hfn.1 hfn.2 (grownCap w (sLen + n) (sCap + l.slk) ce - (sLen + n)) hNn (by simp) rfl
                                (brel_app (zs := Builtin.zeroCells (z.re σ).cells (grownCap w (sLen + n) (sCap + l.slk) ce - (sLen + n))) (hzsz _ _) (fun v hv' => (V.on_le hle v (honO v hv')).1))
                              rw [hre] at g
                              have e1 : (V.reL σ olds ++ V.reL σ news).toArray = (V.reL σ olds).toArray ++ (V.reL σ news).toArray := by simp
                              rw [e1] at g
                              refine ⟨σ.upd h.n ⟨w.drew.heap.size, 0, grownCap w (sLen + n) (sCap + l.slk) ce - (sLen + n)⟩, _, HF.upd (HF.upd H b .dead) h.n (.cells (Blk.of (olds ++ news)) ce), _, _, whole he (by simpa [V.re, hk] using hrun), .inl rfl, ⟨on_new _ _ _, ?_⟩, { g with }, hnew⟩
                              simp only [V.re, reA_new, Ren.k_eq (Ren.upd_same σ h.n _), Bool.false_eq_true, if_false]
                              simp; omega
                          · cases hv
                        · cases hv
                      · cases hv
                    · cases hv
                  · rename_i hne
                    cases hv
                    refine PrimOk.make rfl (fun H σ w ρ he hr hI hn0 => ?_) (fun d hd => (List.mem_append.1 hd).elim (appSrcV_lt hf d) (firstV_lt hfo d))
                    have hrs : ∀ d ∈ rs, H d = h.get d := fun d hd => hr d (by simp [hd])
                    have hrs' : ∀ d ∈ rs', H d = h.get d := fun d hd => hr d (by simp [hd])
                    have hI' : Inv P H σ w.drew := hI.heap rfl
                    have h2' := run_appSrc (w := w) (w' := w.drew) hf (hzre σ).2 (hzre σ).1 hrs hI'
                    have h3' := run_firstV (w := w.drew) hfo hrs' hI'
                    have hle := Ren.le_upd hn0 ⟨w.heap.size, 0, grownCap w (sLen + n) sCap e - (sLen + n)⟩
                    have hgc := grownCap_ge w (sLen + n) sCap e
                    have hS : ∃ a, (V.slice base sLen sCap ex).re σ = .slice a sLen sCap := by
                      rcases base with _ | ⟨b, off⟩
                      · exact ⟨_, rfl⟩
                      · cases ex with
                        | true => exact ⟨some (reA σ (b, off)), by simp [V.re]⟩
                        | false => exact (hne b off rfl rfl).elim
                    obtain ⟨a, hS⟩ := hS
                    have hrun := run_append_out (ty := o.type) (s := a) ht hi (hzero σ) h2'.2 (by rw [← hS]; exact h3'.2) hroom h63 hfit
                    have honO : ∀ v ∈ olds ++ news, v.on σ := by
                      intro v hv'
                      rcases List.mem_append.1 hv' with hv' | hv'
                      · exact (V.onL_iff _ _).1 h3'.1 v hv'
                      · exact (V.onL_iff _ _).1 h2'.1 v hv'
                    have hre : (V.reL (σ.upd h.n ⟨w.heap.size, 0, grownCap w (sLen + n) sCap e - (sLen + n)⟩) (olds ++ news)).toArray = (V.reL σ olds).toArray ++ (V.reL σ news).toArray := by
                      rw [(V.onL_le hle _ ((V.onL_iff _ _).2 honO)).2]; simp [V.reL_eq]
                    refine ⟨w.drew, .cells ((V.reL σ olds).toArray ++ (V.reL σ news).toArray ++ Builtin.zeroCells (z.re σ).cells (grownCap w (sLen + n) sCap e - (sLen + n))) e, grownCap w (sLen + n) sCap e - (sLen + n), rfl, rfl, rfl, rfl, ?_, on_new _ _ _, ?_⟩
                    · rw [← hre]
                      exact brel_app (hzsz _ _) (fun v hv' => (V.on_le hle v (honO v hv')).1)
                    · rw [whole he (by rw [hS]; exact hrun)]
                      simp only [V.re, reA_new, Ren.k_eq (Ren.upd_same σ h.n _), Bool.false_eq_true, if_false]
                      congr 2
                      simp; omega
                · cases hv
              · cases hv
          · cases hv
        · cases hv
      · rename_i a
        split at hv
        · rename_i rs hf
          cases hv
          refine PrimOk.read (fun H σ w ρ he hr hI => ⟨trivial, ?_⟩) (appSrcV_lt hf)
          have h2 := run_appSrc (w := w) hf (hzre σ).2 (hzre σ).1 hr hI
          have ha := args_re ho he hx
          rw [call_builtin ho, ha.2]
          have hst : (storeCells (a.add (0 * i.size)) (V.reL σ []).toArray.toList).run P w = .ok () w := by simp [V.reL, storeCells]
          have hrun := run_append_in (ty := o.type) (a := a) (sLen := 0) (sCap := 0) ht hi h2.2 (Nat.le_refl _) hst
          have hrun' : (Builtin.append_ #[t, u] o.type #[.slice (some a) 0 0, x.re σ]).run P w = .ok (.slice (some a) 0 0) w := by simpa using hrun
          simp only [builtin, V.reL, V.re, Sem.run_bind, hrun', Result.andThen_ok, Sem.run_pure]
        · cases hv
      · cases hv
    · cases hv
  · cases hv

end Go.Vm
