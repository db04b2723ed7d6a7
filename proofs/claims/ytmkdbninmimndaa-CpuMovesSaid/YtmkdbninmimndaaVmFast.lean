/- The same machine, laid out so that the kernel runs it fast: code is taken apart once, and what is left is small. -/
import Derived.Test.YtmkdbninmimndaaVmHk
set_option linter.unusedVariables false
set_option linter.unusedSimpArgs false
namespace Go.Vm
variable {P : Program}

/-- A box: what it holds is reckoned once. -/
structure Bx (α : Type) where
  f : α
noncomputable def oB {α β : Type} (x : Option α) (k : α → Option β) : Option β := Option.rec (motive := fun _ => Option β) none k x
theorem oB_some {α β : Type} {x : Option α} {k : α → Option β} {r : β} (h : oB x k = some r) : ∃ a, x = some a ∧ k a = some r := by
  cases x with
  | none => cases h
  | some a => exact ⟨a, rfl, h⟩
noncomputable def oP {α β γ : Type} (x : Option (α × β)) (k : α → β → Option γ) : Option γ := Option.rec (motive := fun _ => Option γ) none (fun p => Prod.rec (motive := fun _ => Option γ) (fun a b => k a b) p) x
theorem oP_some {α β γ : Type} {x : Option (α × β)} {k : α → β → Option γ} {r : γ} (h : oP x k = some r) : ∃ a b, x = some (a, b) ∧ k a b = some r := by
  cases x with
  | none => cases h
  | some a => exact ⟨a.1, a.2, rfl, h⟩
attribute [irreducible] oP
noncomputable def bB {α : Type} (b : Bool) (t e : α) : α := Bool.rec (motive := fun _ => α) e t b
theorem bB_true {α : Type} (t e : α) : bB true t e = t := rfl
theorem bB_false {α : Type} (t e : α) : bB false t e = e := rfl

/-! ### tries by ways -/
noncomputable def pathF : Nat → Nat → List Bool := fun f => Nat.rec (motive := fun _ => Nat → List Bool) (fun _ => [])
  (fun _ ih n => bB (Nat.beq n 0) [] (bB (Nat.beq (Nat.mod n 2) 1) (true :: ih (Nat.div n 2)) (false :: ih (Nat.sub (Nat.div n 2) 1)))) f
noncomputable def path (n : Nat) : List Bool := pathF (Nat.succ n) n
noncomputable def Tr.gp {α : Type} (t : Tr α) : List Bool → Option α := Tr.rec (motive := fun _ => List Bool → Option α) (fun _ => none)
  (fun _ v _ il ir p => List.rec (motive := fun _ => Option α) v (fun b q _ => bB b (il q) (ir q)) p) t
noncomputable def Tr.ppN {α : Type} (x : α) (p : List Bool) : Tr α := List.rec (motive := fun _ => Tr α) (.node .nil (some x) .nil) (fun b _ ih => bB b (.node ih none .nil) (.node .nil none ih)) p
noncomputable def Tr.pp {α : Type} (x : α) (t : Tr α) : List Bool → Tr α := Tr.rec (motive := fun _ => List Bool → Tr α) (fun p => Tr.ppN x p)
  (fun l v r il ir p => List.rec (motive := fun _ => Tr α) (.node l (some x) r) (fun b q _ => bB b (.node (il q) v r) (.node l v (ir q))) p) t
theorem pathF_succ (f n : Nat) : pathF (f + 1) n = bB (Nat.beq n 0) [] (bB (Nat.beq (n % 2) 1) (true :: pathF f (n / 2)) (false :: pathF f (n / 2 - 1))) := rfl
theorem gp_path {α : Type} : ∀ (f n : Nat) (t : Tr α), n < f → t.gp (pathF f n) = t.get n
  | 0, n, t, h => by omega
  | f + 1, n, t, h => by
    rw [pathF_succ]
    cases t with
    | nil => cases n <;> rfl
    | node l v r =>
      unfold Tr.get
      cases h0 : Nat.beq n 0 with
      | true => rfl
      | false =>
        have e0 : n ≠ 0 := fun e => by subst e; simp at h0
        cases h1 : Nat.beq (n % 2) 1 with
        | true => exact gp_path f (n / 2) l (by omega)
        | false => exact gp_path f (n / 2 - 1) r (by omega)
theorem ppN_path {α : Type} (x : α) : ∀ (f n : Nat), n < f → Tr.ppN x (pathF f n) = Tr.put f .nil n x
  | 0, n, h => by omega
  | f + 1, n, h => by
    rw [pathF_succ]
    unfold Tr.put
    cases h0 : Nat.beq n 0 with
    | true => rfl
    | false =>
      have e0 : n ≠ 0 := fun e => by subst e; simp at h0
      cases h1 : Nat.beq (n % 2) 1 with
      | true => exact congrArg (fun z => Tr.node z none .nil) (ppN_path x f (n / 2) (by omega))
      | false => exact congrArg (fun z => Tr.node .nil none z) (ppN_path x f (n / 2 - 1) (by omega))
theorem pp_path {α : Type} (x : α) : ∀ (f n : Nat) (t : Tr α), n < f → Tr.pp x t (pathF f n) = Tr.put f t n x
  | 0, n, t, h => by omega
  | f + 1, n, t, h => by
    cases t with
    | nil => exact ppN_path x (f + 1) n h
    | node l v r =>
      rw [pathF_succ]
      unfold Tr.put
      cases h0 : Nat.beq n 0 with
      | true => rfl
      | false =>
        have e0 : n ≠ 0 := fun e => by subst e; simp at h0
        cases h1 : Nat.beq (n % 2) 1 with
        | true => exact congrArg (fun z => Tr.node z v r) (pp_path x f (n / 2) l (by omega))
        | false => exact congrArg (fun z => Tr.node l v z) (pp_path x f (n / 2 - 1) r (by omega))
theorem gp_eq {α : Type} (t : Tr α) (n : Nat) : t.gp (path n) = t.get n := gp_path _ _ _ (Nat.lt_succ_self n)
theorem pp_eq {α : Type} (t : Tr α) (n : Nat) (x : α) : Tr.pp x t (path n) = t.set n x := pp_path x _ _ _ (Nat.lt_succ_self n)

noncomputable def fget (h : Heap) (b : Nat) : Option O := Heap.rec (motive := fun _ => Option O) (fun n tr => bB (Nat.ble (Nat.succ b) n) (tr.gp (path b)) none) h
theorem fget_eq (h : Heap) (b : Nat) : fget h b = h.get b := by
  obtain ⟨n, tr⟩ := h
  show bB (Nat.blt b n) (tr.gp (path b)) none = Heap.get ⟨n, tr⟩ b
  rw [gp_eq]; unfold Heap.get; dsimp only; cases Nat.blt b n <;> rfl
noncomputable def fset (h : Heap) (b : Nat) (o : O) : Heap := Heap.rec (motive := fun _ => Heap) (fun n tr => ⟨n, Tr.pp o tr (path b)⟩) h
theorem fset_eq (h : Heap) (b : Nat) (o : O) : fset h b o = h.set b o := by unfold Heap.set; rw [← pp_eq]; rfl
noncomputable def fpush (h : Heap) (o : O) : Heap := Heap.rec (motive := fun _ => Heap) (fun n tr => ⟨Nat.succ n, Tr.pp o tr (path n)⟩) h
theorem fpush_eq (h : Heap) (o : O) : fpush h o = h.push o := by unfold Heap.push; rw [← pp_eq]; rfl
noncomputable def fLay (dflt : List V) (tr : Tr V) (i : Nat) (p : List Bool) (l : List Lay) : V :=
  List.rec (motive := fun _ => V) (Option.rec (motive := fun _ => V) (dflt.getD (Nat.mod i dflt.length) undefV) (fun v => v) (tr.gp p))
    (fun y _ ih => Lay.rec (motive := fun _ => V) (fun o n l t => Option.rec (motive := fun _ => V) (bB (Nat.ble o i) (bB (Nat.ble (Nat.succ i) (Nat.add o n)) (l.getD (Nat.sub i o) undefV) ih) ih) (fun v => v) (t.gp p)) y) l
theorem fLay_eq (dflt : List V) (tr : Tr V) (i : Nat) : ∀ l : List Lay, fLay dflt tr i (path i) l = layGet dflt tr i l
  | [] => by
    show Option.rec (motive := fun _ => V) _ _ (tr.gp (path i)) = _
    rw [gp_eq]; unfold layGet; cases tr.get i <;> rfl
  | y :: r => by
    obtain ⟨o, n, l, t⟩ := y
    show Option.rec (motive := fun _ => V) (bB (Nat.ble o i) (bB (Nat.blt i (o + n)) (l.getD (i - o) undefV) (fLay dflt tr i (path i) r)) (fLay dflt tr i (path i) r)) _ (t.gp (path i)) = _
    have e : layGet dflt tr i (⟨o, n, l, t⟩ :: r) = (match t.get i with
      | some v => v
      | none => match Nat.ble o i with
        | true => match Nat.blt i (o + n) with
          | true => l.getD (i - o) undefV
          | false => layGet dflt tr i r
        | false => layGet dflt tr i r) := rfl
    rw [gp_eq, fLay_eq dflt tr i r, e]
    generalize layGet dflt tr i r = L
    cases t.get i with
    | some v => rfl
    | none => cases Nat.ble o i <;> cases Nat.blt i (o + n) <;> rfl
noncomputable def fbget (b : Blk) (i : Nat) : V := Blk.rec (motive := fun _ => V) (fun _ dflt tr _ over => fLay dflt tr i (path i) over) b
theorem fbget_eq (b : Blk) (i : Nat) : fbget b i = b.get i := by
  obtain ⟨size, dflt, tr, ro, over⟩ := b
  exact fLay_eq dflt tr i over
noncomputable def fbset (b : Blk) (i : Nat) (v : V) : Blk := Blk.rec (motive := fun _ => Blk) (fun size dflt tr ro over => List.rec (motive := fun _ => Blk) ⟨size, dflt, Tr.pp v tr (path i), ro, []⟩ (fun y r _ => Lay.rec (motive := fun _ => Blk) (fun o n l t => ⟨size, dflt, tr, ro, ⟨o, n, l, Tr.pp v t (path i)⟩ :: r⟩) y) over) b
theorem fbset_eq (b : Blk) (i : Nat) (v : V) : fbset b i v = b.set i v := by
  obtain ⟨size, dflt, tr, ro, over⟩ := b
  cases over with
  | nil => unfold Blk.set; dsimp only; rw [← pp_eq]; rfl
  | cons y r => unfold Blk.set; dsimp only; rw [← pp_eq]; rfl
/-- A stretch of a list. -/
noncomputable def fseg (l : List V) (o n : Nat) : List V := List.rec (motive := fun _ => Nat → Nat → List V) (fun _ _ => [])
  (fun v _ ih o n => Nat.rec (motive := fun _ => List V) (Nat.rec (motive := fun _ => List V) [] (fun m _ => v :: ih 0 m) n) (fun o' _ => ih o' n) o) l o n
theorem fseg_eq : ∀ (l : List V) (o n : Nat), fseg l o n = (l.drop o).take n
  | [], o, n => by simp; rfl
  | v :: l, 0, 0 => rfl
  | v :: l, 0, n + 1 => by
    show v :: fseg l 0 n = _
    rw [fseg_eq l 0 n]; rfl
  | v :: l, o + 1, n => by
    show fseg l o n = _
    rw [fseg_eq l o n]; rfl
noncomputable def fcell (b : Blk) (o : Nat) (n : Nat) : List V := Nat.rec (motive := fun _ => Nat → List V) (fun _ => []) (fun _ ih o => fbget b o :: ih (Nat.succ o)) n o
theorem fcell_eq (b : Blk) : ∀ (n o : Nat), fcell b o n = b.gets o n
  | 0, o => rfl
  | n + 1, o => by
    show fbget b o :: fcell b (o + 1) n = _
    rw [fbget_eq, fcell_eq b n]; rfl
noncomputable def frep (v : V) (n : Nat) : List V := Nat.rec (motive := fun _ => List V) [] (fun _ ih => v :: ih) n
theorem frep_eq (v : V) : ∀ n, frep v n = List.replicate n v
  | 0 => rfl
  | n + 1 => by
    show v :: frep v n = _
    rw [frep_eq v n]; rfl
/-- Many cells out of the layers. -/
def lays (dflt : List V) (tr : Tr V) (l : List Lay) (o n : Nat) : List V := (List.range n).map fun i => layGet dflt tr (o + i) l
noncomputable def flays (dflt : List V) (tr : Tr V) (l : List Lay) (o n : Nat) : List V := Nat.rec (motive := fun _ => Nat → List V) (fun _ => []) (fun _ ih o => fLay dflt tr o (path o) l :: ih (Nat.succ o)) n o
theorem lays_succ (dflt : List V) (tr : Tr V) (l : List Lay) (o n : Nat) : lays dflt tr l o (n + 1) = layGet dflt tr o l :: lays dflt tr l (o + 1) n := by
  unfold lays
  rw [List.range_succ_eq_map, List.map_cons, List.map_map]
  congr 1
  refine List.map_congr_left fun i _ => ?_
  simp only [Function.comp]
  congr 1; omega
theorem flays_eq (dflt : List V) (tr : Tr V) (l : List Lay) : ∀ n o, flays dflt tr l o n = lays dflt tr l o n
  | 0, o => rfl
  | n + 1, o => by
    show fLay dflt tr o (path o) l :: flays dflt tr l (o + 1) n = _
    rw [fLay_eq, flays_eq dflt tr l n, lays_succ]
/-- A pattern over and over. -/
noncomputable def fcyc (d : List V) (m : Nat) (f : Nat) : Nat → Nat → List V := Nat.rec (motive := fun _ => Nat → Nat → List V) (fun o n => flays d .nil [] o n)
  (fun _ ih o n => bB (Nat.ble (Nat.add (Nat.mod o m) n) m) (fseg d (Nat.mod o m) n) (fseg d (Nat.mod o m) (Nat.sub m (Nat.mod o m)) ++ ih (Nat.add o (Nat.sub m (Nat.mod o m))) (Nat.sub n (Nat.sub m (Nat.mod o m))))) f
noncomputable def fbase (dflt : List V) (tr : Tr V) (o n : Nat) : List V := Tr.rec (motive := fun _ => List V)
  (bB (Nat.beq dflt.length 1) (frep (dflt.getD 0 undefV) n) (bB (Nat.beq dflt.length 0) (flays dflt tr [] o n) (fcyc dflt dflt.length n o n))) (fun _ _ _ _ _ => flays dflt tr [] o n) tr
noncomputable def fcut (o n yo yn : Nat) (yl : List V) (ih : Nat → Nat → List V) : List V :=
  bB (Nat.ble (Nat.add o n) yo) (ih o n) (bB (Nat.ble (Nat.add yo yn) o) (ih o n)
    (ih o (Nat.sub yo o) ++ (fseg yl (Nat.sub o yo) (Nat.sub (bB (Nat.ble (Nat.add o n) (Nat.add yo yn)) (Nat.add o n) (Nat.add yo yn)) (bB (Nat.ble o yo) yo o)) ++ ih (Nat.add yo yn) (Nat.sub (Nat.add o n) (Nat.add yo yn)))))
noncomputable def fbulk (dflt : List V) (tr : Tr V) (l : List Lay) : Nat → Nat → List V :=
  List.rec (motive := fun _ => Nat → Nat → List V) (fun o n => fbase dflt tr o n)
    (fun y r ih o n => Lay.rec (motive := fun _ => List V) (fun yo yn yl t => Tr.rec (motive := fun _ => List V)
      (bB (Nat.beq yl.length yn) (fcut o n yo yn yl ih) (flays dflt tr (⟨yo, yn, yl, .nil⟩ :: r) o n)) (fun a b c _ _ => flays dflt tr (⟨yo, yn, yl, .node a b c⟩ :: r) o n) t) y) l
theorem lays_get (dflt : List V) (tr : Tr V) (l : List Lay) (o n i : Nat) : (lays dflt tr l o n)[i]? = if i < n then some (layGet dflt tr (o + i) l) else none := by
  unfold lays
  by_cases h : i < n
  · rw [if_pos h, List.getElem?_map, List.getElem?_range h]; rfl
  · rw [if_neg h, List.getElem?_eq_none (by simp; omega)]
theorem lays_len (dflt : List V) (tr : Tr V) (l : List Lay) (o n : Nat) : (lays dflt tr l o n).length = n := by simp [lays]
theorem fcyc_eq (d : List V) (hm : 0 < d.length) : ∀ (f o n : Nat), fcyc d d.length f o n = lays d .nil [] o n
  | 0, o, n => flays_eq _ _ _ _ _
  | f + 1, o, n => by
    have hq : o % d.length < d.length := Nat.mod_lt _ hm
    have md : ∀ i, o % d.length + i < d.length → (o + i) % d.length = o % d.length + i := fun i hi => by
      rw [Nat.add_mod, Nat.mod_eq_of_lt (show i < d.length by omega), Nat.mod_eq_of_lt hi]
    show bB (Nat.ble (o % d.length + n) d.length) (fseg d (o % d.length) n) (fseg d (o % d.length) (d.length - o % d.length) ++ fcyc d d.length f (o + (d.length - o % d.length)) (n - (d.length - o % d.length))) = _
    cases hb : Nat.ble (o % d.length + n) d.length with
    | true =>
      have hb := Nat.le_of_ble_eq_true hb
      rw [bB_true, fseg_eq]
      refine List.ext_getElem? fun i => ?_
      rw [lays_get]
      by_cases hi : i < n
      · rw [if_pos hi, List.getElem?_take_of_lt hi, List.getElem?_drop]
        simp only [layGet, Tr.get_nil]
        rw [md i (by omega)]
        have : o % d.length + i < d.length := by omega
        simp [List.getD, this]
      · rw [if_neg hi, List.getElem?_eq_none (by simp; omega)]
    | false =>
      have hb : ¬ o % d.length + n ≤ d.length := fun h => by rw [Nat.ble_eq_true_of_le h] at hb; cases hb
      rw [bB_false, fcyc_eq d hm f, fseg_eq]
      have hl : ((d.drop (o % d.length)).take (d.length - o % d.length)).length = d.length - o % d.length := by simp
      refine List.ext_getElem? fun i => ?_
      rw [lays_get]
      by_cases c1 : i < d.length - o % d.length
      · rw [List.getElem?_append_left (by rw [hl]; exact c1), List.getElem?_take_of_lt c1, List.getElem?_drop, if_pos (by omega)]
        simp only [layGet, Tr.get_nil]
        rw [md i (by omega)]
        have : o % d.length + i < d.length := by omega
        simp [List.getD, this]
      · rw [List.getElem?_append_right (by rw [hl]; omega), hl, lays_get]
        by_cases c2 : i < n
        · rw [if_pos (by omega), if_pos c2]
          congr 2; omega
        · rw [if_neg (by omega), if_neg c2]
theorem fbase_eq (dflt : List V) (tr : Tr V) (o n : Nat) : fbase dflt tr o n = lays dflt tr [] o n := by
  cases tr with
  | node a b c => exact flays_eq _ _ _ _ _
  | nil =>
    show bB (Nat.beq dflt.length 1) (frep (dflt.getD 0 undefV) n) (bB (Nat.beq dflt.length 0) (flays dflt .nil [] o n) (fcyc dflt dflt.length n o n)) = _
    cases h1 : Nat.beq dflt.length 1 with
    | true =>
      have h1 := Nat.eq_of_beq_eq_true h1
      rw [bB_true, frep_eq]
      refine List.ext_getElem? fun i => ?_
      rw [lays_get]
      by_cases hi : i < n
      · rw [if_pos hi]
        simp only [layGet, Tr.get_nil, h1, Nat.mod_one]
        simp [hi]
      · rw [if_neg hi, List.getElem?_eq_none (by simp; omega)]
    | false =>
      rw [bB_false]
      cases hb : Nat.beq dflt.length 0 with
      | true => exact flays_eq _ _ _ _ _
      | false =>
        have h0 : dflt.length ≠ 0 := fun e => by rw [e] at hb; simp at hb
        rw [bB_false, fcyc_eq dflt (by omega)]
theorem layGet_out {dflt : List V} {tr : Tr V} {r : List Lay} {yo yn : Nat} {yl : List V} {j : Nat} (h : ¬ (yo ≤ j ∧ j < yo + yn)) : layGet dflt tr j (⟨yo, yn, yl, .nil⟩ :: r) = layGet dflt tr j r := by
  simp only [layGet, Tr.get_nil]
  cases h1 : Nat.ble yo j with
  | false => rfl
  | true => cases h2 : Nat.blt j (yo + yn) with
    | false => rfl
    | true => exact absurd ⟨Nat.le_of_ble_eq_true h1, Nat.blt_eq.mp h2⟩ h
theorem layGet_in {dflt : List V} {tr : Tr V} {r : List Lay} {yo yn : Nat} {yl : List V} {j : Nat} (h1 : yo ≤ j) (h2 : j < yo + yn) : layGet dflt tr j (⟨yo, yn, yl, .nil⟩ :: r) = yl.getD (j - yo) undefV := by
  simp only [layGet, Tr.get_nil, Nat.ble_eq_true_of_le h1, show Nat.blt j (yo + yn) = true by simp [Nat.blt_eq, h2]]
theorem fbulk_eq (dflt : List V) (tr : Tr V) : ∀ (l : List Lay) (o n : Nat), fbulk dflt tr l o n = lays dflt tr l o n
  | [], o, n => fbase_eq dflt tr o n
  | y :: r, o, n => by
    obtain ⟨yo, yn, yl, t⟩ := y
    cases t with
    | node a b c => exact flays_eq _ _ _ _ _
    | nil =>
      show bB (Nat.beq yl.length yn) (fcut o n yo yn yl (fbulk dflt tr r)) (flays dflt tr (⟨yo, yn, yl, .nil⟩ :: r) o n) = _
      cases hb : Nat.beq yl.length yn with
      | false => exact flays_eq _ _ _ _ _
      | true =>
        have hb := Nat.eq_of_beq_eq_true hb
        have ih := fbulk_eq dflt tr r
        have low : (∀ i, i < n → ¬ (yo ≤ o + i ∧ o + i < yo + yn)) → fbulk dflt tr r o n = lays dflt tr (⟨yo, yn, yl, .nil⟩ :: r) o n := by
          intro h
          rw [ih]
          refine List.map_congr_left fun i hi => ?_
          exact (layGet_out (h i (List.mem_range.1 hi))).symm
        rw [bB_true]
        show bB (Nat.ble (o + n) yo) (fbulk dflt tr r o n) (bB (Nat.ble (yo + yn) o) (fbulk dflt tr r o n)
          (fbulk dflt tr r o (yo - o) ++ (fseg yl (o - yo) ((bB (Nat.ble (o + n) (yo + yn)) (o + n) (yo + yn)) - (bB (Nat.ble o yo) yo o)) ++ fbulk dflt tr r (yo + yn) (o + n - (yo + yn))))) = _
        cases h1 : Nat.ble (o + n) yo with
        | true =>
          have h1 := Nat.le_of_ble_eq_true h1
          rw [bB_true]; exact low fun i hi => by omega
        | false =>
          have h1 : ¬ o + n ≤ yo := fun h => by rw [Nat.ble_eq_true_of_le h] at h1; cases h1
          rw [bB_false]
          cases h2 : Nat.ble (yo + yn) o with
          | true =>
            have h2 := Nat.le_of_ble_eq_true h2
            rw [bB_true]; exact low fun i hi => by omega
          | false =>
            have h2 : ¬ yo + yn ≤ o := fun h => by rw [Nat.ble_eq_true_of_le h] at h2; cases h2
            rw [bB_false]
            have e1 : bB (Nat.ble (o + n) (yo + yn)) (o + n) (yo + yn) = min (o + n) (yo + yn) := by
              cases h : Nat.ble (o + n) (yo + yn) with
              | true => have := Nat.le_of_ble_eq_true h; rw [bB_true]; omega
              | false => have : ¬ o + n ≤ yo + yn := fun h' => by rw [Nat.ble_eq_true_of_le h'] at h; cases h
                         rw [bB_false]; omega
            have e2 : bB (Nat.ble o yo) yo o = max o yo := by
              cases h : Nat.ble o yo with
              | true => have := Nat.le_of_ble_eq_true h; rw [bB_true]; omega
              | false => have : ¬ o ≤ yo := fun h' => by rw [Nat.ble_eq_true_of_le h'] at h; cases h
                         rw [bB_false]; omega
            rw [e1, e2, ih, ih, fseg_eq]
            refine List.ext_getElem? fun i => ?_
            have hl2 : ((yl.drop (o - yo)).take (min (o + n) (yo + yn) - max o yo)).length = min (o + n) (yo + yn) - max o yo := by simp; omega
            rw [lays_get]
            by_cases c1 : i < yo - o
            · rw [List.getElem?_append_left (by rw [lays_len]; exact c1), lays_get, if_pos c1, if_pos (by omega), layGet_out (by omega)]
            · rw [List.getElem?_append_right (by rw [lays_len]; omega), lays_len]
              by_cases c2 : i - (yo - o) < min (o + n) (yo + yn) - max o yo
              · rw [List.getElem?_append_left (by rw [hl2]; exact c2), List.getElem?_take_of_lt c2, List.getElem?_drop, if_pos (by omega), layGet_in (by omega) (by omega)]
                have e3 : o - yo + (i - (yo - o)) = o + i - yo := by omega
                have : o + i - yo < yl.length := by omega
                rw [e3]; simp [List.getD, this]
              · rw [List.getElem?_append_right (by rw [hl2]; omega), hl2, lays_get]
                by_cases c3 : i < n
                · rw [if_pos (by omega), if_pos c3, layGet_out (by omega)]
                  congr 2; omega
                · rw [if_neg (by omega), if_neg c3]
theorem gets_map (b : Blk) : ∀ (n o : Nat), b.gets o n = (List.range n).map fun i => b.get (o + i)
  | 0, o => rfl
  | n + 1, o => by
    rw [Blk.gets, gets_map b n (o + 1), List.range_succ_eq_map, List.map_cons, List.map_map]
    congr 1
    refine List.map_congr_left fun i _ => ?_
    simp only [Function.comp]
    congr 1; omega
noncomputable def fgets (b : Blk) (o : Nat) (n : Nat) : List V := bB (Nat.ble 16 n) (Blk.rec (motive := fun _ => List V) (fun _ dflt tr _ over => fbulk dflt tr over o n) b) (fcell b o n)
theorem fgets_eq (b : Blk) (n o : Nat) : fgets b o n = b.gets o n := by
  unfold fgets
  cases Nat.ble 16 n with
  | false => exact fcell_eq b n o
  | true =>
    obtain ⟨size, dflt, tr, ro, over⟩ := b
    rw [gets_map]
    exact fbulk_eq dflt tr over o n
noncomputable def fputs (b : Blk) (o : Nat) (l : List V) : Blk := List.rec (motive := fun _ => Blk → Nat → Blk) (fun b _ => b) (fun v _ ih b o => ih (fbset b o v) (Nat.succ o)) l b o
theorem fputs_eq : ∀ (l : List V) (b : Blk) (o : Nat), fputs b o l = b.puts o l
  | [], b, o => rfl
  | v :: r, b, o => by
    show fputs (fbset b o v) (o + 1) r = _
    rw [fbset_eq, fputs_eq r]; rfl
noncomputable def fputA (b : Blk) (o : Nat) (l : List V) : Blk := bB (Nat.ble 16 l.length) (Blk.rec (motive := fun _ => Blk) (fun size dflt tr ro over => bB (Nat.beq o 0) (bB (Nat.beq l.length size) ⟨size, l, .nil, ro, []⟩ ⟨size, dflt, tr, ro, ⟨o, l.length, l, .nil⟩ :: over⟩) ⟨size, dflt, tr, ro, ⟨o, l.length, l, .nil⟩ :: over⟩) b) (fputs b o l)
theorem fputA_eq (l : List V) (b : Blk) (o : Nat) : fputA b o l = b.putA o l := by
  unfold fputA Blk.putA
  cases Nat.ble 16 l.length with
  | false => exact fputs_eq l b o
  | true =>
    obtain ⟨size, dflt, tr, ro, over⟩ := b
    dsimp only
    rw [bB_true]
    cases Nat.beq o 0 <;> cases Nat.beq l.length size <;> rfl

/-! ### operands -/
noncomputable def tget (p : List Bool) (tm : Tm) : Option V := tm.tr.gp p
noncomputable def cV (x : Operand) : Bx (Tm → Option V) := match x with
  | .tmp t => ⟨tget (path t)⟩
  | .const c => match toV 100 c with
    | some v => ⟨fun _ => some v⟩
    | none => ⟨fun _ => none⟩
  | .global _ => ⟨fun _ => none⟩
  | .func f => ⟨fun _ => some (.func f [] [])⟩
theorem cV_eq (x : Operand) (tm : Tm) : (cV x).f tm = evV tm x := by
  cases x with
  | tmp t => exact gp_eq _ _
  | const c =>
    unfold cV evV
    simp only []
    split
    · rename_i v h; rw [h]
    · rename_i h; rw [h]
  | global g => rfl
  | func f => rfl
noncomputable def cVs (l : List Operand) : Bx (Tm → Option (List V)) := List.rec (motive := fun _ => Bx (Tm → Option (List V))) ⟨fun _ => some []⟩
  (fun x _ ih => ⟨fun tm => oB ((cV x).f tm) fun v => oB (ih.f tm) fun vs => some (v :: vs)⟩) l
theorem cVs_eq (tm : Tm) : ∀ l : List Operand, (cVs l).f tm = evVs tm l
  | [] => rfl
  | x :: r => by
    show oB ((cV x).f tm) (fun v => oB ((cVs r).f tm) fun vs => some (v :: vs)) = _
    rw [cV_eq, cVs_eq tm r]
    cases h : evV tm x with
    | none => simp [evVs, h, oB]
    | some v => cases h2 : evVs tm r <;> simp [evVs, h, h2, oB]
noncomputable def tset (p : List Bool) (i : Nat) (tm : Tm) (v : V) : Tm := Tm.rec (motive := fun _ => Tm) (fun n tr => bB (Nat.ble (Nat.succ i) n) ⟨n, Tr.pp v tr p⟩ ⟨n, tr⟩) tm
noncomputable def cPut (d : Option Tmp) : Bx (Tm → V → Tm) := match d with
  | some i => ⟨tset (path i) i⟩
  | none => ⟨fun tm _ => tm⟩
theorem cPut_eq (d : Option Tmp) (tm : Tm) (v : V) : (cPut d).f tm v = tm.put d v := by
  cases d with
  | none => rfl
  | some i =>
    show tset (path i) i tm v = tm.set i v
    obtain ⟨n, tr⟩ := tm
    show bB (Nat.blt i n) (⟨n, Tr.pp v tr (path i)⟩ : Tm) ⟨n, tr⟩ = _
    rw [pp_eq]
    unfold Tm.set
    dsimp only
    cases Nat.blt i n <;> rfl

/-! ### numbers -/
noncomputable def selInt (v : V) : Option (IntKind × Int) := @V.rec (fun _ => Option (IntKind × Int)) (fun _ => PUnit)
  (fun _ => none) (fun k n => some (k, n)) (fun _ => none) (fun _ => none) (fun _ _ _ _ => none) (fun _ => none) (fun _ _ _ _ _ => none) none (fun _ => none) (fun _ _ _ => none) none (fun _ _ => none) (fun _ _ => none) (fun _ => none) (fun _ => none) ⟨⟩ (fun _ _ _ _ => ⟨⟩) v
noncomputable def selPtr (v : V) : Option (Nat × Nat) := @V.rec (fun _ => Option (Nat × Nat)) (fun _ => PUnit)
  (fun _ => none) (fun _ _ => none) (fun _ => none) (fun a => a) (fun _ _ _ _ => none) (fun _ => none) (fun _ _ _ _ _ => none) none (fun _ => none) (fun _ _ _ => none) none (fun _ _ => none) (fun _ _ => none) (fun _ => none) (fun _ => none) ⟨⟩ (fun _ _ _ _ => ⟨⟩) v
noncomputable def selBool (v : V) : Option Bool := @V.rec (fun _ => Option Bool) (fun _ => PUnit)
  (fun b => some b) (fun _ _ => none) (fun _ => none) (fun _ => none) (fun _ _ _ _ => none) (fun _ => none) (fun _ _ _ _ _ => none) none (fun _ => none) (fun _ _ _ => none) none (fun _ _ => none) (fun _ _ => none) (fun _ => none) (fun _ => none) ⟨⟩ (fun _ _ _ _ => ⟨⟩) v
noncomputable def selTuple (v : V) : Option (List V) := @V.rec (fun _ => Option (List V)) (fun _ => PUnit)
  (fun _ => none) (fun _ _ => none) (fun _ => none) (fun _ => none) (fun _ _ _ _ => none) (fun _ => none) (fun _ _ _ _ _ => none) none (fun _ => none) (fun _ _ _ => none) none (fun _ _ => none) (fun l _ => some l) (fun _ => none) (fun _ => none) ⟨⟩ (fun _ _ _ _ => ⟨⟩) v
noncomputable def selSlice (v : V) : Option ((Nat × Nat) × Nat) := @V.rec (fun _ => Option ((Nat × Nat) × Nat)) (fun _ => PUnit)
  (fun _ => none) (fun _ _ => none) (fun _ => none) (fun _ => none) (fun a n _ _ => oB a fun p => some (p, n)) (fun _ => none) (fun _ _ _ _ _ => none) none (fun _ => none) (fun _ _ _ => none) none (fun _ _ => none) (fun _ _ => none) (fun _ => none) (fun _ => none) ⟨⟩ (fun _ _ _ _ => ⟨⟩) v
theorem selInt_some {v : V} {k : IntKind} {m : Int} (h : selInt v = some (k, m)) : v = .int k m := by
  cases v <;> first | (cases h; rfl) | cases h
theorem selPtr_some {v : V} {p : Nat × Nat} (h : selPtr v = some p) : v = .ptr (some p) := by
  cases v <;> first | (cases h; done) | skip
  rename_i a
  have h : a = some p := h
  rw [h]
theorem selBool_some {v : V} {b : Bool} (h : selBool v = some b) : v = .bool b := by
  cases v <;> first | (cases h; rfl) | cases h
theorem selTuple_some {v : V} {b : List V} (h : selTuple v = some b) : v = .tuple b := by
  cases v <;> first | (cases h; rfl) | cases h
theorem selSlice_some {v : V} {a b n : Nat} (h : selSlice v = some ((a, b), n)) : ∃ c ex, v = .slice (some (a, b)) n c ex := by
  cases v <;> first | (cases h; done) | skip
  rename_i q m c ex
  obtain ⟨p, h1, h2⟩ := oB_some (show oB q (fun p => some (p, m)) = some ((a, b), n) from h)
  cases h2
  exact ⟨c, ex, by rw [h1]⟩
/-- A number that is not negative. -/
noncomputable def iN {α : Type} (x : Int) (k : Nat → Option α) : Option α := Int.rec (motive := fun _ => Option α) (fun n => k n) (fun _ => none) x
theorem iN_some {α : Type} {x : Int} {k : Nat → Option α} {r : α} (h : iN x k = some r) : ∃ n, x = Int.ofNat n ∧ k n = some r := by
  cases x with
  | ofNat n => exact ⟨n, rfl, h⟩
  | negSucc n => cases h
attribute [irreducible] iN
noncomputable def selCells (o : O) : Option Blk := O.rec (motive := fun _ => Option Blk) (fun c _ => some c) (fun _ _ => none) (fun _ _ _ _ => none) (fun _ => none) (fun _ => none) none o
noncomputable def selCellsE (o : O) : Option (Blk × TypeId) := O.rec (motive := fun _ => Option (Blk × TypeId)) (fun c e => some (c, e)) (fun _ _ => none) (fun _ _ _ _ => none) (fun _ => none) (fun _ => none) none o
theorem selCells_some {o : O} {c : Blk} (h : selCells o = some c) : ∃ e, o = .cells c e := by
  cases o <;> first | (cases h; exact ⟨_, rfl⟩) | cases h
theorem selCellsE_some {o : O} {c : Blk} {e : TypeId} (h : selCellsE o = some (c, e)) : o = .cells c e := by
  cases o <;> first | (cases h; rfl) | cases h
/-- How wide a kind is, and whether it has a sign: 2 to the bits, and the first number that is not itself. -/
def kTop : IntKind → Nat
  | .i8 => 128
  | .i16 => 32768
  | .i32 => 2147483648
  | .i64 => 9223372036854775808
  | .u8 => 256
  | .u16 => 65536
  | .u32 => 4294967296
  | .u64 => 18446744073709551616
theorem wrap_top {k : IntKind} {n : Nat} (h : n < kTop k) : k.wrap (Int.ofNat n) = Int.ofNat n := by
  have h' : (Int.ofNat n : Int) = (n : Int) := rfl
  rw [h']
  cases k <;> simp only [kTop] at h <;> simp [IntKind.wrap, IntKind.bits, IntKind.signed] <;> omega
noncomputable def fwrap (k : IntKind) (n : Nat) : Int := bB (Nat.ble (Nat.succ n) (kTop k)) (Int.ofNat n) (k.wrap (Int.ofNat n))
theorem fwrap_eq (k : IntKind) (n : Nat) : fwrap k n = k.wrap (Int.ofNat n) := by
  unfold fwrap
  show bB (Nat.blt n (kTop k)) _ _ = _
  cases h : Nat.blt n (kTop k) with
  | true => rw [bB_true, wrap_top (Nat.blt_eq.mp h)]
  | false => rfl
def kPow : IntKind → Nat
  | .i8 => 256
  | .i16 => 65536
  | .i32 => 4294967296
  | .i64 => 18446744073709551616
  | .u8 => 256
  | .u16 => 65536
  | .u32 => 4294967296
  | .u64 => 18446744073709551616
theorem kPow_eq (k : IntKind) : kPow k = 2 ^ k.bits := by cases k <;> rfl
def kIdx : IntKind → Nat
  | .i8 => 0
  | .i16 => 1
  | .i32 => 2
  | .i64 => 3
  | .u8 => 4
  | .u16 => 5
  | .u32 => 6
  | .u64 => 7
theorem kIdx_inj {a b : IntKind} (h : Nat.beq (kIdx a) (kIdx b) = true) : a = b := by cases a <;> cases b <;> first | rfl | cases h
theorem w_beqF {a b : Nat} (h : a ≠ b) : Nat.beq a b = false := by
  cases hb : Nat.beq a b with
  | false => rfl
  | true => exact absurd (Nat.eq_of_beq_eq_true hb) h
/-- What two numbers that are not negative come to; none: ask the slow one. -/
noncomputable def cBinI (op : BinOp) : Bx (IntKind → Nat → Nat → Option V) := match op with
  | .add => ⟨fun k a b => some (.int k (fwrap k (Nat.add a b)))⟩
  | .sub => ⟨fun k a b => bB (Nat.ble b a) (some (.int k (fwrap k (Nat.sub a b)))) none⟩
  | .mul => ⟨fun k a b => some (.int k (fwrap k (Nat.mul a b)))⟩
  | .quo => ⟨fun k a b => bB (Nat.beq b 0) none (some (.int k (fwrap k (Nat.div a b))))⟩
  | .rem => ⟨fun k a b => bB (Nat.beq b 0) none (some (.int k (Int.ofNat (Nat.mod a b))))⟩
  | .and => ⟨fun k a b => some (.int k (fwrap k (Nat.land (Nat.mod a (kPow k)) (Nat.mod b (kPow k)))))⟩
  | .or => ⟨fun k a b => some (.int k (fwrap k (Nat.lor (Nat.mod a (kPow k)) (Nat.mod b (kPow k)))))⟩
  | .xor => ⟨fun k a b => some (.int k (fwrap k (Nat.xor (Nat.mod a (kPow k)) (Nat.mod b (kPow k)))))⟩
  | .eql => ⟨fun _ a b => some (.bool (Nat.beq a b))⟩
  | .neq => ⟨fun _ a b => some (.bool (bB (Nat.beq a b) false true))⟩
  | .lss => ⟨fun _ a b => some (.bool (Nat.ble (Nat.succ a) b))⟩
  | .leq => ⟨fun _ a b => some (.bool (Nat.ble a b))⟩
  | .gtr => ⟨fun _ a b => some (.bool (Nat.ble (Nat.succ b) a))⟩
  | .geq => ⟨fun _ a b => some (.bool (Nat.ble b a))⟩
  | _ => ⟨fun _ _ _ => none⟩
theorem toNat_ofInt_nat (w n : Nat) : (BitVec.ofInt w (Int.ofNat n)).toNat = n % 2 ^ w := by
  rw [show Int.ofNat n = (n : Int) from rfl, BitVec.ofInt_natCast, BitVec.toNat_ofNat]
theorem cBinI_eq {op : BinOp} {k : IntKind} {a b : Nat} {v : V} (h : (cBinI op).f k a b = some v) : intBin op k (Int.ofNat a) (Int.ofNat b) = some v := by
  have key : ∀ (n : Nat) (i : Int), i = Int.ofNat n → V.int k (fwrap k n) = V.int k (k.wrap i) := fun n i e => by rw [fwrap_eq, e]
  cases op
  case add => cases h; exact congrArg some (key _ _ rfl).symm
  case sub =>
    simp only [cBinI] at h
    cases hb : Nat.ble b a with
    | true =>
      rw [hb, bB_true] at h; cases h
      refine congrArg some (key _ _ ?_).symm
      have := Nat.le_of_ble_eq_true hb
      show (Int.ofNat a - Int.ofNat b : Int) = Int.ofNat (a - b)
      simp only [Int.ofNat_eq_natCast]; omega
    | false => rw [hb] at h; cases h
  case mul => cases h; exact congrArg some (key _ _ rfl).symm
  case quo =>
    simp only [cBinI] at h
    cases hb : Nat.beq b 0 with
    | true => rw [hb] at h; cases h
    | false =>
      rw [hb, bB_false] at h; cases h
      have h0 : b ≠ 0 := fun e => by subst e; simp at hb
      simp only [intBin]
      rw [if_neg (by simpa using h0)]
      exact congrArg some (key _ _ rfl).symm
  case rem =>
    simp only [cBinI] at h
    cases hb : Nat.beq b 0 with
    | true => rw [hb] at h; cases h
    | false =>
      rw [hb, bB_false] at h; cases h
      have h0 : b ≠ 0 := fun e => by subst e; simp at hb
      simp only [intBin]
      rw [if_neg (by simpa using h0)]
      rfl
  case and => cases h; refine congrArg some (key _ _ ?_).symm; rw [BitVec.toNat_and, toNat_ofInt_nat, toNat_ofInt_nat, kPow_eq]; rfl
  case or => cases h; refine congrArg some (key _ _ ?_).symm; rw [BitVec.toNat_or, toNat_ofInt_nat, toNat_ofInt_nat, kPow_eq]; rfl
  case xor => cases h; refine congrArg some (key _ _ ?_).symm; rw [BitVec.toNat_xor, toNat_ofInt_nat, toNat_ofInt_nat, kPow_eq]; rfl
  case eql =>
    cases h
    refine congrArg (fun z => some (V.bool z)) ?_
    by_cases e : a = b
    · subst e; simp
    · rw [w_beqF e]; simp; omega
  case neq =>
    cases h
    refine congrArg (fun z => some (V.bool z)) ?_
    by_cases e : a = b
    · subst e; simp [bB]
    · rw [w_beqF e]; simp [bB]; omega
  case lss => cases h; refine congrArg (fun z => some (V.bool z)) ?_; show _ = Nat.blt a b; rw [Bool.eq_iff_iff]; simp [Nat.blt_eq]
  case leq => cases h; refine congrArg (fun z => some (V.bool z)) ?_; rw [Bool.eq_iff_iff]; simp
  case gtr => cases h; refine congrArg (fun z => some (V.bool z)) ?_; show _ = Nat.blt b a; rw [Bool.eq_iff_iff]; simp [Nat.blt_eq]
  case geq => cases h; refine congrArg (fun z => some (V.bool z)) ?_; rw [Bool.eq_iff_iff]; simp
  all_goals cases h
end Go.Vm
