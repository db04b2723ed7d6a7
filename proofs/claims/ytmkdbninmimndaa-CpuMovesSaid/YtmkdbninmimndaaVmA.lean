/- The virtual machine's data: tries, virtual values, blocks, heaps, temporaries, renamings. No program in sight. -/
import Derived.Calls
namespace Go.Vm

/-! ### tries -/
inductive Tr (α : Type) where
  | nil
  | node (l : Tr α) (v : Option α) (r : Tr α)

def Tr.get {α : Type} : Tr α → Nat → Option α
  | .nil, _ => none
  | .node l v r, n => match Nat.beq n 0 with
    | true => v
    | false => match Nat.beq (n % 2) 1 with
      | true => l.get (n / 2)
      | false => r.get (n / 2 - 1)

def Tr.put {α : Type} : Nat → Tr α → Nat → α → Tr α
  | 0, t, _, _ => t
  | f + 1, .nil, n, x => match Nat.beq n 0 with
    | true => .node .nil (some x) .nil
    | false => match Nat.beq (n % 2) 1 with
      | true => .node (Tr.put f .nil (n / 2) x) none .nil
      | false => .node .nil none (Tr.put f .nil (n / 2 - 1) x)
  | f + 1, .node l v r, n, x => match Nat.beq n 0 with
    | true => .node l (some x) r
    | false => match Nat.beq (n % 2) 1 with
      | true => .node (Tr.put f l (n / 2) x) v r
      | false => .node l v (Tr.put f r (n / 2 - 1) x)

def Tr.set {α : Type} (t : Tr α) (n : Nat) (x : α) : Tr α := Tr.put (n + 1) t n x

theorem Tr.get_nil {α : Type} (n : Nat) : (Tr.nil : Tr α).get n = none := by cases n <;> rfl

theorem Tr.get_put {α : Type} (x : α) : ∀ (f : Nat) (t : Tr α) (n m : Nat), n < f → (Tr.put f t n x).get m = if m = n then some x else t.get m := by
  intro f
  induction f with
  | zero => intro t n m h; omega
  | succ f ih =>
    intro t n m h
    have key : ∀ (l : Tr α) (v : Option α) (r : Tr α), (match Nat.beq n 0 with
        | true => Tr.node l (some x) r
        | false => match Nat.beq (n % 2) 1 with
          | true => .node (Tr.put f l (n / 2) x) v r
          | false => .node l v (Tr.put f r (n / 2 - 1) x)).get m = if m = n then some x else (Tr.node l v r).get m := by
      intro l v r
      cases h0 : Nat.beq n 0 with
      | true =>
        have e0 : n = 0 := Nat.eq_of_beq_eq_true h0
        subst e0
        cases hm : Nat.beq m 0 with
        | true => have : m = 0 := Nat.eq_of_beq_eq_true hm; subst this; simp [Tr.get]
        | false => have : m ≠ 0 := fun e => by subst e; simp at hm
                   simp [Tr.get, hm, this]
      | false =>
        have e0 : n ≠ 0 := fun e => by subst e; simp at h0
        cases h1 : Nat.beq (n % 2) 1 with
        | true =>
          have e1 : n % 2 = 1 := Nat.eq_of_beq_eq_true h1
          simp only [Tr.get]
          cases hm : Nat.beq m 0 with
          | true => have : m = 0 := Nat.eq_of_beq_eq_true hm; subst this; simp [Ne.symm e0]
          | false =>
            have em : m ≠ 0 := fun e => by subst e; simp at hm
            cases hm1 : Nat.beq (m % 2) 1 with
            | true =>
              have e2 : m % 2 = 1 := Nat.eq_of_beq_eq_true hm1
              simp only [ih _ _ _ (show n / 2 < f by omega)]
              by_cases hh : m = n
              · simp [hh]
              · rw [if_neg hh, if_neg (by omega)]
            | false =>
              have e2 : m % 2 ≠ 1 := fun e => by rw [e] at hm1; simp at hm1
              rw [if_neg (by omega)]
        | false =>
          have e1 : n % 2 ≠ 1 := fun e => by rw [e] at h1; simp at h1
          simp only [Tr.get]
          cases hm : Nat.beq m 0 with
          | true => have : m = 0 := Nat.eq_of_beq_eq_true hm; subst this; simp [Ne.symm e0]
          | false =>
            have em : m ≠ 0 := fun e => by subst e; simp at hm
            cases hm1 : Nat.beq (m % 2) 1 with
            | true =>
              have e2 : m % 2 = 1 := Nat.eq_of_beq_eq_true hm1
              rw [if_neg (by omega)]
            | false =>
              have e2 : m % 2 ≠ 1 := fun e => by rw [e] at hm1; simp at hm1
              simp only [ih _ _ _ (show n / 2 - 1 < f by omega)]
              by_cases hh : m = n
              · simp [hh]
              · rw [if_neg hh, if_neg (by omega)]
    cases t with
    | nil =>
      have := key .nil none .nil
      have hn : (Tr.node Tr.nil none Tr.nil : Tr α).get m = (Tr.nil : Tr α).get m := by
        simp only [Tr.get, Tr.get_nil]; (repeat' split) <;> rfl
      rw [hn] at this
      exact this
    | node l v r => exact key l v r

theorem Tr.get_set {α : Type} (t : Tr α) (n m : Nat) (x : α) : (t.set n x).get m = if m = n then some x else t.get m :=
  Tr.get_put x (n + 1) t n m (Nat.lt_succ_self n)

/-! ### virtual values -/
inductive V where
  | bool (b : Bool)
  | int (k : IntKind) (n : Int)
  | str (s : ByteArray)
  | ptr (a : Option (Nat × Nat))
  | slice (a : Option (Nat × Nat)) (len cap : Nat) (ex : Bool)
  | map (r : Option Nat)
  | func (f : FuncId) (first captured : List V)
  | nilFunc
  | yield (l : Nat)
  | iface (t : TypeId) (v : V)
  | nilIface
  | agg (c : List V)
  | tuple (vs : List V)
  | raw (x : Value)
  | esl (a : Addr)
  deriving Inhabited

def undefV : V := .tuple []

/-- Where a virtual block lies: its real block, how far into it, and how many elements the real one can hold beyond it. -/
structure Loc where
  blk : Nat
  sh : Nat
  slk : Nat
abbrev Ren := Nat → Option Loc
def Ren.b (σ : Ren) (x : Nat) : Nat := match σ x with | some l => l.blk | none => 0
def Ren.s (σ : Ren) (x : Nat) : Nat := match σ x with | some l => l.sh | none => 0
def Ren.k (σ : Ren) (x : Nat) : Nat := match σ x with | some l => l.slk | none => 0
def Ren.is (σ : Ren) (x : Nat) : Prop := ∃ l, σ x = some l
theorem Ren.b_eq {σ : Ren} {x : Nat} {l : Loc} (h : σ x = some l) : σ.b x = l.blk := by simp [Ren.b, h]
theorem Ren.s_eq {σ : Ren} {x : Nat} {l : Loc} (h : σ x = some l) : σ.s x = l.sh := by simp [Ren.s, h]
theorem Ren.k_eq {σ : Ren} {x : Nat} {l : Loc} (h : σ x = some l) : σ.k x = l.slk := by simp [Ren.k, h]
def Ren.le (σ τ : Ren) : Prop := ∀ b l, σ b = some l → τ b = some l
theorem Ren.le_refl (σ : Ren) : σ.le σ := fun _ _ h => h
theorem Ren.le_trans {σ τ υ : Ren} (h : σ.le τ) (h' : τ.le υ) : σ.le υ := fun b l e => h' b l (h b l e)

def reA (σ : Ren) (a : Nat × Nat) : Addr := ⟨σ.b a.1, σ.s a.1 + a.2, none⟩

mutual
def V.re (σ : Ren) : V → Value
  | .bool b => .bool b
  | .int k n => .int k n
  | .str s => .string s
  | .ptr a => .pointer (a.map (reA σ))
  | .slice none n c _ => .slice none n c
  | .slice (some a) n c ex => .slice (some (reA σ a)) n (if ex then c else c + σ.k a.1)
  | .map r => .map (r.map σ.b)
  | .func f xs ys => .func (.func f) (V.reL σ xs).toArray (V.reL σ ys).toArray
  | .nilFunc => .nilFunc
  | .yield l => .func (.yield (σ.b l)) #[] #[]
  | .iface t v => .iface t (v.re σ)
  | .nilIface => .nilIface
  | .agg c => .agg (V.reL σ c).toArray
  | .tuple vs => .tuple (V.reL σ vs).toArray
  | .raw x => x
  | .esl a => .slice (some a) 0 0
def V.reL (σ : Ren) : List V → List Value
  | [] => []
  | v :: r => v.re σ :: V.reL σ r
end

theorem V.reL_eq (σ : Ren) (l : List V) : V.reL σ l = l.map (V.re σ) := by
  induction l with
  | nil => rfl
  | cons v r ih => simp [V.reL, ih]

/-! what a value names is known -/
mutual
def V.on (σ : Ren) : V → Prop
  | .ptr (some a) => σ.is a.1
  | .slice (some a) _ _ _ => σ.is a.1
  | .map (some r) => σ.is r
  | .func _ xs ys => V.onL σ xs ∧ V.onL σ ys
  | .yield l => σ.is l
  | .iface _ v => v.on σ
  | .agg c => V.onL σ c
  | .tuple vs => V.onL σ vs
  | _ => True
def V.onL (σ : Ren) : List V → Prop
  | [] => True
  | v :: r => v.on σ ∧ V.onL σ r
end

theorem V.onL_iff (σ : Ren) (l : List V) : V.onL σ l ↔ ∀ v ∈ l, v.on σ := by
  induction l with
  | nil => simp [V.onL]
  | cons v r ih => simp [V.onL, ih]

theorem Ren.is_le {σ τ : Ren} (h : σ.le τ) {b : Nat} (hb : σ.is b) : τ.is b := let ⟨l, e⟩ := hb; ⟨l, h b l e⟩
theorem Ren.b_le {σ τ : Ren} (h : σ.le τ) {b : Nat} (hb : σ.is b) : τ.b b = σ.b b := by obtain ⟨l, e⟩ := hb; rw [Ren.b_eq e, Ren.b_eq (h b l e)]
theorem Ren.s_le {σ τ : Ren} (h : σ.le τ) {b : Nat} (hb : σ.is b) : τ.s b = σ.s b := by obtain ⟨l, e⟩ := hb; rw [Ren.s_eq e, Ren.s_eq (h b l e)]
theorem Ren.k_le {σ τ : Ren} (h : σ.le τ) {b : Nat} (hb : σ.is b) : τ.k b = σ.k b := by obtain ⟨l, e⟩ := hb; rw [Ren.k_eq e, Ren.k_eq (h b l e)]

mutual
theorem V.on_le {σ τ : Ren} (h : σ.le τ) : ∀ (v : V), v.on σ → v.on τ ∧ v.re τ = v.re σ
  | .ptr (some a), hv => ⟨Ren.is_le h hv, by simp [V.re, reA, Ren.b_le h hv, Ren.s_le h hv]⟩
  | .slice (some a) _ _ ex, hv => ⟨Ren.is_le h hv, by simp [V.re, reA, Ren.b_le h hv, Ren.s_le h hv, Ren.k_le h hv]⟩
  | .map (some r), hv => ⟨Ren.is_le h hv, by simp [V.re, Ren.b_le h hv]⟩
  | .func _ xs ys, hv => ⟨⟨(V.onL_le h xs hv.1).1, (V.onL_le h ys hv.2).1⟩, by simp [V.re, (V.onL_le h xs hv.1).2, (V.onL_le h ys hv.2).2]⟩
  | .yield l, hv => ⟨Ren.is_le h hv, by simp [V.re, Ren.b_le h hv]⟩
  | .iface _ v, hv => ⟨(V.on_le h v hv).1, by simp [V.re, (V.on_le h v hv).2]⟩
  | .agg c, hv => ⟨(V.onL_le h c hv).1, by simp [V.re, (V.onL_le h c hv).2]⟩
  | .tuple vs, hv => ⟨(V.onL_le h vs hv).1, by simp [V.re, (V.onL_le h vs hv).2]⟩
  | .bool _, _ => ⟨trivial, rfl⟩
  | .int _ _, _ => ⟨trivial, rfl⟩
  | .str _, _ => ⟨trivial, rfl⟩
  | .ptr none, _ => ⟨trivial, rfl⟩
  | .slice none _ _ _, _ => ⟨trivial, rfl⟩
  | .map none, _ => ⟨trivial, rfl⟩
  | .nilFunc, _ => ⟨trivial, rfl⟩
  | .nilIface, _ => ⟨trivial, rfl⟩
  | .raw _, _ => ⟨trivial, rfl⟩
  | .esl _, _ => ⟨trivial, rfl⟩
theorem V.onL_le {σ τ : Ren} (h : σ.le τ) : ∀ (l : List V), V.onL σ l → V.onL τ l ∧ V.reL τ l = V.reL σ l
  | [], _ => ⟨trivial, rfl⟩
  | v :: r, hv => ⟨⟨(V.on_le h v hv.1).1, (V.onL_le h r hv.2).1⟩, by simp [V.reL, (V.on_le h v hv.1).2, (V.onL_le h r hv.2).2]⟩
end

/-- A virtual value stands for a real one. -/
def VRel (σ : Ren) (v : V) (x : Value) : Prop := v.on σ ∧ x = v.re σ
theorem VRel.le {σ τ : Ren} (h : σ.le τ) {v : V} {x : Value} (hv : VRel σ v x) : VRel τ v x := ⟨(V.on_le h v hv.1).1, by rw [hv.2, (V.on_le h v hv.1).2]⟩

/-! ### blocks -/
/-- A run of cells that was written at once, and what was written since. -/
structure Lay where
  o : Nat
  n : Nat
  l : List V
  tr : Tr V
structure Blk where
  size : Nat
  dflt : List V
  tr : Tr V
  ro : Bool := false
  over : List Lay := []

def layGet (dflt : List V) (tr : Tr V) (i : Nat) : List Lay → V
  | [] => match tr.get i with
    | some v => v
    | none => dflt.getD (i % dflt.length) undefV
  | y :: r => match y.tr.get i with
    | some v => v
    | none => match Nat.ble y.o i with
      | true => match Nat.blt i (y.o + y.n) with
        | true => y.l.getD (i - y.o) undefV
        | false => layGet dflt tr i r
      | false => layGet dflt tr i r
def Blk.get (b : Blk) (i : Nat) : V := layGet b.dflt b.tr i b.over
def Blk.set (b : Blk) (i : Nat) (v : V) : Blk := match b.over with
  | [] => { b with tr := b.tr.set i v }
  | y :: r => { b with over := ⟨y.o, y.n, y.l, y.tr.set i v⟩ :: r }

theorem Blk.get_set (b : Blk) (i j : Nat) (v : V) : (b.set i v).get j = if j = i then v else b.get j := by
  obtain ⟨size, dflt, tr, ro, over⟩ := b
  cases over with
  | nil =>
    simp only [Blk.get, Blk.set, layGet, Tr.get_set]
    by_cases h : j = i <;> simp [h]
  | cons y r =>
    simp only [Blk.get, Blk.set, layGet, Tr.get_set]
    by_cases h : j = i <;> simp [h]
theorem Blk.size_set (b : Blk) (i : Nat) (v : V) : (b.set i v).size = b.size := by unfold Blk.set; split <;> rfl
theorem Blk.ro_set (b : Blk) (i : Nat) (v : V) : (b.set i v).ro = b.ro := by unfold Blk.set; split <;> rfl

def Blk.puts (b : Blk) (o : Nat) : List V → Blk
  | [] => b
  | v :: r => (b.set o v).puts (o + 1) r
theorem Blk.size_puts (l : List V) : ∀ (b : Blk) (o : Nat), (b.puts o l).size = b.size := by
  induction l with
  | nil => intro b o; rfl
  | cons v r ih => intro b o; simp [Blk.puts, ih, Blk.size_set]
theorem Blk.ro_puts (l : List V) : ∀ (b : Blk) (o : Nat), (b.puts o l).ro = b.ro := by
  induction l with
  | nil => intro b o; rfl
  | cons v r ih => intro b o; simp [Blk.puts, ih, Blk.ro_set]
theorem Blk.get_puts (l : List V) : ∀ (b : Blk) (o j : Nat), (b.puts o l).get j = if o ≤ j ∧ j < o + l.length then l.getD (j - o) undefV else b.get j := by
  induction l with
  | nil => intro b o j; simp [Blk.puts]; omega
  | cons v r ih =>
    intro b o j
    simp only [Blk.puts, ih, Blk.get_set, List.length_cons]
    by_cases h1 : o + 1 ≤ j ∧ j < o + 1 + r.length
    · rw [if_pos h1, if_pos (by omega), show j - o = (j - (o + 1)) + 1 by omega]; rfl
    · rw [if_neg h1]
      by_cases h2 : j = o
      · subst h2; simp
      · rw [if_neg h2, if_neg (by omega)]

def Blk.gets (b : Blk) (o : Nat) : Nat → List V
  | 0 => []
  | n + 1 => b.get o :: b.gets (o + 1) n
theorem Blk.length_gets (b : Blk) (n : Nat) : ∀ o, (b.gets o n).length = n := by
  induction n with
  | zero => intro o; rfl
  | succ n ih => intro o; simp [Blk.gets, ih]
theorem Blk.gets_get (b : Blk) (n : Nat) : ∀ (o j : Nat), j < n → (b.gets o n)[j]? = some (b.get (o + j)) := by
  induction n with
  | zero => intro o j h; omega
  | succ n ih =>
    intro o j h
    cases j with
    | zero => simp [Blk.gets]
    | succ j => simp [Blk.gets, ih (o + 1) j (by omega), show o + 1 + j = o + (j + 1) by omega]

/-- Many cells are laid over at once. -/
def Blk.putA (b : Blk) (o : Nat) (l : List V) : Blk := match Nat.ble 16 l.length with
  | true => match Nat.beq o 0, Nat.beq l.length b.size with
    | true, true => ⟨b.size, l, .nil, b.ro, []⟩
    | _, _ => ⟨b.size, b.dflt, b.tr, b.ro, ⟨o, l.length, l, .nil⟩ :: b.over⟩
  | false => b.puts o l
theorem Blk.size_putA (b : Blk) (o : Nat) (l : List V) : (b.putA o l).size = b.size := by
  unfold Blk.putA
  split
  · split <;> rfl
  · exact Blk.size_puts l b o
theorem Blk.ro_putA (b : Blk) (o : Nat) (l : List V) : (b.putA o l).ro = b.ro := by
  unfold Blk.putA
  split
  · split <;> rfl
  · exact Blk.ro_puts l b o
theorem Blk.get_putA (l : List V) (b : Blk) (o j : Nat) (hj : j < b.size) : (b.putA o l).get j = if o ≤ j ∧ j < o + l.length then l.getD (j - o) undefV else b.get j := by
  unfold Blk.putA
  split
  · split
    · rename_i h1 h2
      have h1 := Nat.eq_of_beq_eq_true h1
      have h2 := Nat.eq_of_beq_eq_true h2
      subst h1
      rw [if_pos (by omega)]
      simp only [Blk.get, layGet, Tr.get_nil]
      rw [Nat.mod_eq_of_lt (by omega), Nat.sub_zero]
    · simp only [Blk.get, layGet, Tr.get_nil]
      by_cases h1 : o ≤ j
      · have e1 : Nat.ble o j = true := Nat.ble_eq_true_of_le h1
        simp only [e1]
        by_cases h2 : j < o + l.length
        · have e2 : Nat.blt j (o + l.length) = true := by simp [Nat.blt_eq, h2]
          simp only [e2]
          rw [if_pos ⟨h1, h2⟩]
        · have e2 : Nat.blt j (o + l.length) = false := by
            cases hb : Nat.blt j (o + l.length) with
            | true => exact absurd (Nat.blt_eq.mp hb) h2
            | false => rfl
          simp only [e2]
          rw [if_neg fun h => h2 h.2]
      · have e1 : Nat.ble o j = false := by
          cases hb : Nat.ble o j with
          | true => exact absurd (Nat.le_of_ble_eq_true hb) h1
          | false => rfl
        simp only [e1]
        rw [if_neg fun h => h1 h.1]
  · exact Blk.get_puts l b o j
theorem Blk.putA_short {l : List V} (b : Blk) (o : Nat) (h : l.length < 16) : b.putA o l = b.puts o l := by
  unfold Blk.putA
  split
  · rename_i h1; have := Nat.le_of_ble_eq_true h1; omega
  · rfl
/-- A block of given cells. -/
def Blk.of (l : List V) : Blk := { size := l.length, dflt := l, tr := .nil }
theorem Blk.get_of (l : List V) (i : Nat) (h : i < l.length) : (Blk.of l).get i = l.getD i undefV := by
  simp [Blk.get, layGet, Blk.of, Tr.get_nil, Nat.mod_eq_of_lt h]
/-- n cells, the pattern z over and over. -/
def Blk.rep (n : Nat) (z : List V) : Blk := { size := n, dflt := z, tr := .nil }
theorem Blk.ro_of (l : List V) : (Blk.of l).ro = false := rfl
theorem Blk.ro_rep (n : Nat) (z : List V) : (Blk.rep n z).ro = false := rfl

end Go.Vm
