/- Calls whose arguments lie in memory: the memory as it stands, as a virtual heap that is only read. -/
import Derived.Test.YtmkdbninmimndaaVmPost
import Derived.Test.YtmkdbninmimndaaVmBB
set_option linter.unusedVariables false
set_option linter.unusedSimpArgs false
namespace Go.Vm
variable {P : Program}

/-- May a block be looked at? -/
def openB (w : World) (b : Nat) : Bool := match w.heap[b]? with
  | some (.cells _ _ _) => true
  | _ => false
/-- The renaming of what lies there: each block is itself. -/
def rn0 (w : World) : Ren := fun b => match openB w b with
  | true => some ⟨b, 0, 0⟩
  | false => none
/-- A cell as it lies there. -/
def vOf1 (w : World) : Value → V
  | .bool b => .bool b
  | .int k n => .int k n
  | .string s => .str s
  | .slice none n c => .slice none n c true
  | .slice (some a) 0 0 => .esl a
  | .slice (some ⟨b, o, none⟩) n c => match openB w b with
    | true => .slice (some (b, o)) n c true
    | false => .raw (.slice (some ⟨b, o, none⟩) n c)
  | .pointer none => .ptr none
  | .pointer (some ⟨b, o, none⟩) => match openB w b with
    | true => .ptr (some (b, o))
    | false => .raw (.pointer (some ⟨b, o, none⟩))
  | x => .raw x
theorem rn0_is {w : World} {b : Nat} (h : openB w b = true) : rn0 w b = some ⟨b, 0, 0⟩ := by simp [rn0, h]
theorem vOf1_rel (w : World) (x : Value) : (vOf1 w x).on (rn0 w) ∧ (vOf1 w x).re (rn0 w) = x := by
  unfold vOf1
  split
  · exact ⟨trivial, rfl⟩
  · exact ⟨trivial, rfl⟩
  · exact ⟨trivial, rfl⟩
  · exact ⟨trivial, rfl⟩
  · exact ⟨trivial, rfl⟩
  · split
    · rename_i h
      exact ⟨⟨_, rn0_is h⟩, by simp [V.re, reA, Ren.b_eq (rn0_is h), Ren.s_eq (rn0_is h)]⟩
    · exact ⟨trivial, rfl⟩
  · exact ⟨trivial, rfl⟩
  · split
    · rename_i h
      exact ⟨⟨_, rn0_is h⟩, by simp [V.re, reA, Ren.b_eq (rn0_is h), Ren.s_eq (rn0_is h)]⟩
    · exact ⟨trivial, rfl⟩
  · exact ⟨trivial, rfl⟩
/-- A block as it lies there: it is only read. -/
def blkOf (w : World) (arr : Array Value) : Blk := { Blk.of (arr.toList.map (vOf1 w)) with ro := true }
theorem blkOf_size (w : World) (arr : Array Value) : (blkOf w arr).size = arr.size := by simp [blkOf, Blk.of]
theorem blkOf_get (w : World) (arr : Array Value) {i : Nat} {x : Value} (h : arr[i]? = some x) : (blkOf w arr).get i = vOf1 w x := by
  have hlt := (Array.getElem?_eq_some_iff.1 h).1
  have : (Blk.of (arr.toList.map (vOf1 w))).get i = (arr.toList.map (vOf1 w)).getD i undefV := Blk.get_of _ i (by simpa using hlt)
  have e : (blkOf w arr).get i = (Blk.of (arr.toList.map (vOf1 w))).get i := rfl
  rw [e, this]
  have hx := (Array.getElem?_eq_some_iff.1 h).2
  simp [List.getD, hlt, hx]
def objOf (w : World) (b : Nat) : O := match w.heap[b]? with
  | some (.cells arr e _) => .cells (blkOf w arr) e
  | _ => .dead
def heapN (w : World) : Nat → Heap
  | 0 => ⟨0, .nil⟩
  | n + 1 => (heapN w n).push (objOf w n)
theorem heapN_n (w : World) : ∀ n, (heapN w n).n = n
  | 0 => rfl
  | n + 1 => by simp [heapN, heapN_n w n]
theorem heapN_get (w : World) : ∀ n b, b < n → (heapN w n).get b = some (objOf w b)
  | 0, b, h => by omega
  | n + 1, b, h => by
    unfold heapN
    rw [Heap.get_push, heapN_n]
    by_cases e : b = n
    · rw [if_pos e, e]
    · rw [if_neg e]; exact heapN_get w n b (by omega)
/-- The memory as it stands. -/
def heap0 (w : World) : Heap := heapN w w.heap.size
def hf0 (w : World) : HF := fun b => if b < w.heap.size then some (objOf w b) else none
theorem heap0_n (w : World) : (heap0 w).n = w.heap.size := heapN_n w _
theorem heap0_get {w : World} {b : Nat} {arr : Array Value} {e : TypeId} {fz : Nat × Nat} (h : w.heap[b]? = some (.cells arr e fz)) : (heap0 w).get b = some (.cells (blkOf w arr) e) := by
  have hb := (Array.getElem?_eq_some_iff.1 h).1
  rw [heap0, heapN_get w _ b hb]
  simp [objOf, h]
theorem inv0 (w : World) : Inv P (hf0 w) (rn0 w) w := by
  refine ⟨fun b o hb hd => ?_, fun a b la lb ha hb hla hlb hab => ?_, ⟨w.heap.size, fun b hb => ?_⟩⟩
  · unfold hf0 at hb
    split at hb
    · rename_i hlt
      cases hb
      unfold objOf at hd ⊢
      split at hd
      · rename_i arr e fz hw
        refine ⟨⟨b, 0, 0⟩, by simp [rn0, openB, hw], arr, ⟨fz, fun h => (by cases h), by simpa using hw⟩, by simp [blkOf_size], fun i hi => ?_⟩
        rw [blkOf_size] at hi
        rw [blkOf_get w arr (Array.getElem?_eq_some_iff.2 ⟨hi, rfl⟩)]
        have := vOf1_rel w arr[i]
        exact ⟨this.1, by simp [this.2, hi]⟩
      · cases hd
    · cases hb
  · unfold rn0 at hla hlb
    split at hla <;> split at hlb <;> cases hla <;> cases hlb
    exact hab
  · constructor
    · unfold rn0 openB
      rw [Array.getElem?_eq_none hb]
    · unfold hf0
      rw [if_neg (by omega)]
theorem pre0 (w : World) (R W : Set') : PreU P (heap0 w) R W (hf0 w) (rn0 w) w := by
  refine ⟨fun b hb _ => ?_, fun b hb => ?_, inv0 w⟩
  · rw [heap0_n] at hb
    rw [heap0, heapN_get w _ b hb, hf0, if_pos hb]
  · rw [heap0_n] at hb
    refine ⟨?_, by rw [hf0, if_neg (by omega)]⟩
    unfold rn0 openB
    rw [Array.getElem?_eq_none hb]
theorem vOf1s_rel (w : World) : ∀ l : List Value, V.onL (rn0 w) (l.map (vOf1 w)) ∧ V.reL (rn0 w) (l.map (vOf1 w)) = l
  | [] => ⟨trivial, rfl⟩
  | x :: r => by
    have h1 := vOf1_rel w x
    have h2 := vOf1s_rel w r
    exact ⟨⟨h1.1, h2.1⟩, by simp [V.reL, h1.2, h2.2]⟩
/-- An argument as it lies there. -/
def vOf (w : World) : Value → V
  | .agg cs => .agg (cs.toList.map (vOf1 w))
  | x => vOf1 w x
theorem vOf_rel (w : World) (x : Value) : (vOf w x).on (rn0 w) ∧ (vOf w x).re (rn0 w) = x := by
  unfold vOf
  split
  · rename_i cs
    have := vOf1s_rel w cs.toList
    exact ⟨this.1, by simp [V.re, this.2]⟩
  · exact vOf1_rel w x
theorem vOf_one (w : World) (x : Value) (h : ∀ c, x ≠ .agg c) : vOf w x = vOf1 w x := by
  unfold vOf
  split
  · rename_i c; exact absurd rfl (h c)
  · rfl
theorem vOfs_rel (w : World) : ∀ l : List Value, V.onL (rn0 w) (l.map (vOf w)) ∧ V.reL (rn0 w) (l.map (vOf w)) = l
  | [] => ⟨trivial, rfl⟩
  | x :: r => by
    have h1 := vOf_rel w x
    have h2 := vOfs_rel w r
    exact ⟨⟨h1.1, h2.1⟩, by simp [V.reL, h1.2, h2.2]⟩
/-- A law of arguments in memory that writes no old memory. -/
theorem law_open {M : MP} {f : FuncId} {args : Array Value} {w : World} {R : Set'} (hs : SF M f (args.toList.map (vOf w)) (heap0 w) R (fun b => w.heap.size ≤ b) fun v _ => v = .bool true) :
    Calls M.P f args w fun e w' => e = .returned (.bool true) ∧ RowKit.Below w.heap.size w w' := by
  have ha := vOfs_rel w args.toList
  have hc := hs.all _ _ w (pre0 w R _) ha.1
  rw [ha.2, Array.toArray_toList] at hc
  refine (callsIn_wide (n := 0)).1 (CallsIn.mono hc ?_)
  rintro e w' ⟨x, σ', H', v, h', rfl, vf, rfl, hx, hst⟩
  refine ⟨by rw [hx.2]; rfl, hst.goes.below fun b ⟨o, ho, _⟩ hW => ?_⟩
  have h1 : b < (heap0 w).n := hW.1
  have h2 : w.heap.size ≤ b := hW.2
  rw [heap0_n] at h1
  omega

/-- A closed call that the machine runs with a table, anywhere. -/
theorem SF.closedH (hm : P.follows .mixedOrders = true) {hk : Hook} (hh : HookOk P hk) {f : FuncId} {L n : Nat} (hr : isTrue (evInvH P hk L n (.fn f) [] s0) = true) (h : Heap) (R W : Set') : SF (P : MP) f [] h R W fun v h' => v = .bool true ∧ h' = h := by
  obtain ⟨s, hs⟩ := isTrue_some hr
  exact ⟨.bool true, h, ⟨rfl, rfl⟩, ((evInvH_good hm hh L n).fn _ _ _ _ _ hs).closed h R W⟩

/-! ### what lies there -/
/-- Types of plain data. -/
inductive VT where
  | bool
  | int (k : IntKind)
  | slice (e : VT)
  | struct (fs : List VT)
  | array (n : Nat) (e : VT)
mutual
def VT.size : VT → Nat
  | .bool => 1
  | .int _ => 1
  | .slice _ => 1
  | .struct fs => VT.sizes fs
  | .array n e => n * e.size
def VT.sizes : List VT → Nat
  | [] => 0
  | t :: r => t.size + VT.sizes r
end
/-- A slice of which each place is so. -/
def VSl (h : Heap) (sz : Nat) (Q : List V → Prop) (v : V) : Prop :=
  v = .slice none 0 0 true ∨ (∃ a, v = .esl a) ∨ ∃ b o len cap c ce, v = .slice (some (b, o)) len cap true ∧ len ≤ cap ∧ 0 < cap ∧ cap ≤ 9223372036854775807 ∧ h.get b = some (.cells c ce) ∧ o + cap * sz ≤ c.size ∧ ∀ i, i < cap → Q (c.gets (o + i * sz) sz)
mutual
def VIs (h : Heap) : VT → List V → Prop
  | .bool, cs => ∃ b, cs = [.bool b]
  | .int k, cs => ∃ n, cs = [.int k n] ∧ k.min ≤ n ∧ n ≤ k.max
  | .slice e, cs => ∃ v, cs = [v] ∧ VSl h e.size (VIs h e) v
  | .struct fs, cs => VIss h fs cs
  | .array n e, cs => cs.length = n * e.size ∧ ∀ i, i < n → VIs h e ((cs.drop (i * e.size)).take e.size)
def VIss (h : Heap) : List VT → List V → Prop
  | [], cs => cs = []
  | t :: r, cs => VIs h t (cs.take t.size) ∧ VIss h r (cs.drop t.size)
end
/-! A type of the program is of that plain form. -/
mutual
def vtOk (P : Program) : Nat → TypeId → VT → Bool
  | 0, _, _ => false
  | n + 1, t, vt => match P.underlying t, vt with
    | some .bool, .bool => true
    | some (.int k), .int k' => decide (k = k')
    | some (.slice e), .slice ve => Nat.beq (P.cellsOf e) ve.size && Nat.blt 0 ve.size && vtOk P n e ve
    | some (.struct fs), .struct vs => Nat.beq (P.cellsOf t) (VT.sizes vs) && vtOks P n 0 fs.toList vs
    | some (.array m e), .array m' ve => Nat.beq m m' && Nat.beq (P.cellsOf t) (m * ve.size) && Nat.beq (P.cellsOf e) ve.size && vtOk P n e ve
    | _, _ => false
def vtOks (P : Program) : Nat → Nat → List Field → List VT → Bool
  | 0, _, _, _ => false
  | _ + 1, _, [], [] => true
  | n + 1, off, f :: fs, v :: vs => Nat.beq f.offset off && Nat.beq (P.cellsOf f.type) v.size && vtOk P n f.type v && vtOks P n (off + v.size) fs vs
  | _ + 1, _, _, _ => false
end
/-- Cells of memory, as they lie in the virtual heap. -/
theorem cells_mapM {w : World} {a : Addr} : ∀ {l : List Nat} {cs : List Value}, (l.mapM fun i => w.cell? (a.add i)) = some cs → cs.length = l.length ∧ ∀ (j i : Nat), l[j]? = some i → w.cell? (a.add i) = cs[j]?
  | [], cs, h => by simp at h; subst h; simp
  | x :: l, cs, h => by
    rw [List.mapM_cons] at h
    cases hx : w.cell? (a.add x) with
    | none => simp [hx] at h
    | some v =>
      cases hl : (l.mapM fun i => w.cell? (a.add i)) with
      | none => simp [hx, hl] at h
      | some vs =>
        simp [hx, hl] at h
        subst h
        obtain ⟨h1, h2⟩ := cells_mapM hl
        refine ⟨by simp [h1], fun j i hj => ?_⟩
        cases j with
        | zero => simp at hj; subst hj; simp [hx]
        | succ j => simp at hj; simp [h2 j i hj]
theorem cells_at {w : World} {base : Nat} {a : Addr} {n : Nat} {cs : List Value} (h : w.cells? base a n = some cs) (hn : 0 < n) :
    ∃ arr e fz, w.heap[a.block]? = some (.cells arr e fz) ∧ a.spot = none ∧ a.off + n ≤ arr.size ∧ cs.length = n ∧ ∀ i, i < n → arr[a.off + i]? = cs[i]? := by
  unfold World.cells? at h
  split at h
  · obtain ⟨h1, h2⟩ := cells_mapM h
    have hlen : cs.length = n := by simpa using h1
    have key : ∀ i, i < n → w.cell? (a.add i) = cs[i]? := fun i hi => h2 i i (by simp [hi])
    have hc0 := key 0 hn
    rw [List.getElem?_eq_getElem (by omega)] at hc0
    have ha0 : a.add 0 = a := by simp [Addr.add]
    rw [ha0] at hc0
    unfold World.cell? at hc0
    split at hc0
    · rename_i arr e fz hw
      split at hc0
      · cases hc0
      · rename_i hsp
        have hsp' : a.spot = none := by cases hs : a.spot with
          | none => rfl
          | some x => simp [hs] at hsp
        have key2 : ∀ i, i < n → arr[a.off + i]? = cs[i]? := by
          intro i hi
          have := key i hi
          by_cases h0 : i = 0
          · subst h0
            rw [ha0] at this
            simpa [World.cell?, hw, hsp'] using this
          · simpa [World.cell?, Addr.add, h0, hw] using this
        refine ⟨arr, e, fz, hw, hsp', ?_, hlen, key2⟩
        have hl := key2 (n - 1) (by omega)
        rw [List.getElem?_eq_getElem (by omega)] at hl
        have := (Array.getElem?_eq_some_iff.1 hl).1
        omega
    · cases hc0
  · cases h
theorem gets_eq {b : Blk} {n o : Nat} {l : List V} (hl : l.length = n) (h : ∀ i, i < n → l[i]? = some (b.get (o + i))) : b.gets o n = l := by
  refine List.ext_getElem? fun i => ?_
  by_cases hi : i < n
  · rw [Blk.gets_get b n o i hi, h i hi]
  · rw [List.getElem?_eq_none (by rw [Blk.length_gets]; omega), List.getElem?_eq_none (by omega)]
theorem range_mapM {α : Type} {f : Nat → Option α} : ∀ {l : List Nat} {r : List α}, l.mapM f = some r → ∀ i ∈ l, ∃ y, f i = some y
  | [], r, h, i, hi => by cases hi
  | x :: l, r, h, i, hi => by
    rw [List.mapM_cons] at h
    cases hx : f x with
    | none => simp [hx] at h
    | some v =>
      cases hl : l.mapM f with
      | none => simp [hx, hl] at h
      | some vs =>
        rcases List.mem_cons.1 hi with rfl | hi
        · exact ⟨v, hx⟩
        · exact range_mapM hl i hi
theorem addr_spot_add (a : Addr) (h : a.spot = none) (n : Nat) : a.add n = ⟨a.block, a.off + n, none⟩ := by
  unfold Addr.add
  split
  · rename_i h0; subst h0; cases a; simp at h; simp [h]
  · rfl

theorem vOf1_slice (w : World) {b o len cap : Nat} (hc : 0 < cap) (hb : openB w b = true) : vOf1 w (.slice (some ⟨b, o, none⟩) len cap) = .slice (some (b, o)) len cap true := by
  cases cap with
  | zero => omega
  | succ c => cases len <;> simp [vOf1, hb]
section
variable {H : Type} {enc : TypeId × Value → H} {w : World}
theorem trod_fields {n : Nat} (ih : ∀ (m : Nat) (t : TypeId) (vt : VT) (cs : List Value) (x : DataW H × List MemPlace), vtOk P m t vt = true → DataW.trod enc P w 0 (fun _ => true) true n t cs = some x → VIs (heap0 w) vt (cs.map (vOf1 w))) (cs : List Value) :
    ∀ (k off : Nat) (fs : List Field) (vs : List VT) (xs : List (DataW H × List MemPlace)), vtOks P k off fs vs = true → off + VT.sizes vs = cs.length →
      (fs.mapM fun f => DataW.trod enc P w 0 (fun _ => true) true n f.type ((cs.drop f.offset).take (P.cellsOf f.type))) = some xs → VIss (heap0 w) vs ((cs.drop off).map (vOf1 w))
  | 0, off, fs, vs, xs, h, hl, hx => by simp [vtOks] at h
  | k + 1, off, [], [], xs, h, hl, hx => by
    simp only [VT.sizes] at hl
    show (cs.drop off).map (vOf1 w) = []
    rw [List.drop_eq_nil_of_le (by omega)]; rfl
  | k + 1, off, f :: fs, v :: vs, xs, h, hl, hx => by
    simp only [vtOks, Bool.and_eq_true] at h
    obtain ⟨⟨⟨h1, h2⟩, h3⟩, h4⟩ := h
    have h1 := Nat.eq_of_beq_eq_true h1
    have h2 := Nat.eq_of_beq_eq_true h2
    rw [List.mapM_cons] at hx
    cases hy : DataW.trod enc P w 0 (fun _ => true) true n f.type ((cs.drop f.offset).take (P.cellsOf f.type)) with
    | none => simp [hy] at hx
    | some y =>
      cases hz : (fs.mapM fun f => DataW.trod enc P w 0 (fun _ => true) true n f.type ((cs.drop f.offset).take (P.cellsOf f.type))) with
      | none => simp [hy, hz] at hx
      | some ys =>
        have i1 := ih k f.type v _ y h3 hy
        simp only [VT.sizes] at hl
        have i2 := trod_fields ih cs k (off + v.size) fs vs ys h4 (by omega) hz
        rw [h1, h2] at i1
        refine ⟨?_, ?_⟩
        · rw [← List.map_take]; exact i1
        · rw [← List.map_drop, List.drop_drop]; exact i2
  | k + 1, off, [], v :: vs, xs, h, hl, hx => by simp [vtOks] at h
  | k + 1, off, f :: fs, [], xs, h, hl, hx => by simp [vtOks] at h
theorem trod_vis : ∀ (n m : Nat) (t : TypeId) (vt : VT) (cs : List Value) (x : DataW H × List MemPlace), vtOk P m t vt = true → DataW.trod enc P w 0 (fun _ => true) true n t cs = some x → VIs (heap0 w) vt (cs.map (vOf1 w)) := by
  intro n
  induction n with
  | zero => intro m t vt cs x _ h; cases h
  | succ n ih =>
    intro m t vt cs x hv h
    cases m with
    | zero => simp [vtOk] at hv
    | succ m =>
      unfold vtOk at hv
      unfold DataW.trod at h
      split at hv
      · rename_i hu
        rw [hu] at h
        split at h <;> rename_i he <;> first | (cases he; done) | skip
        · exact ⟨_, rfl⟩
        · cases h
      · rename_i k k' hu
        rw [hu] at h
        have hk : k = k' := of_decide_eq_true hv
        subst hk
        split at h <;> rename_i he <;> first | (cases he; done) | skip
        · rename_i k1 k2 nn
          cases he
          split at h
          · rename_i hc
            obtain ⟨rfl, hw⟩ := hc
            simp only [Lit.wf, Bool.and_eq_true, decide_eq_true_eq] at hw
            exact ⟨nn, rfl, hw.1, hw.2⟩
          · cases h
        · cases h
      · rename_i e ve hu
        simp only [Bool.and_eq_true] at hv
        obtain ⟨⟨hsz, hpos⟩, hok⟩ := hv
        have hsz := Nat.eq_of_beq_eq_true hsz
        have hpos := Nat.blt_eq.mp hpos
        rw [hu] at h
        split at h <;> rename_i he <;> first | (cases he; done) | skip
        · exact ⟨_, rfl, .inl rfl⟩
        · rename_i e2 a len cap
          cases he
          split at h
          · rename_i hc
            obtain ⟨_, hlc, hcm⟩ := hc
            rw [hsz] at h
            cases hel : (List.range len).mapM (fun i => (w.cells? 0 (a.add (i * ve.size)) ve.size).bind (DataW.trod enc P w 0 (fun _ => true) true n e)) with
            | none => simp [hel] at h
            | some elems =>
              cases hre : (List.range (cap - len)).mapM (fun j => (w.cells? 0 (a.add ((len + j) * ve.size)) ve.size).bind (DataW.trod enc P w 0 (fun _ => true) true n e)) with
              | none => simp [hel, hre] at h
              | some rest =>
                have all : ∀ i, i < cap → ∃ ci y, w.cells? 0 (a.add (i * ve.size)) ve.size = some ci ∧ DataW.trod enc P w 0 (fun _ => true) true n e ci = some y := by
                  intro i hi
                  have : ∃ y, (w.cells? 0 (a.add (i * ve.size)) ve.size).bind (DataW.trod enc P w 0 (fun _ => true) true n e) = some y := by
                    by_cases hil : i < len
                    · exact range_mapM hel i (List.mem_range.2 hil)
                    · obtain ⟨y, hy⟩ := range_mapM hre (i - len) (List.mem_range.2 (by omega))
                      rw [show len + (i - len) = i by omega] at hy
                      exact ⟨y, hy⟩
                  obtain ⟨y, hy⟩ := this
                  cases hci : w.cells? 0 (a.add (i * ve.size)) ve.size with
                  | none => simp [hci] at hy
                  | some ci => exact ⟨ci, y, rfl, by simpa [hci] using hy⟩
                rcases Nat.eq_zero_or_pos cap with h0 | h0
                · have hl0 : len = 0 := by omega
                  subst h0 hl0
                  exact ⟨_, rfl, .inr (.inl ⟨a, rfl⟩)⟩
                · obtain ⟨c0, y0, hc0, _⟩ := all 0 h0
                  obtain ⟨arr, te, fz, hw, hsp, _, _, _⟩ := cells_at hc0 hpos
                  have ha0 : a.add (0 * ve.size) = a := by simp [Addr.add]
                  rw [ha0] at hw hsp
                  obtain ⟨b, o, sp⟩ := a
                  simp only at hw hsp
                  subst hsp
                  have hop : openB w b = true := by simp [openB, hw]
                  have key : ∀ i, i < cap → o + i * ve.size + ve.size ≤ arr.size ∧ VIs (heap0 w) ve ((blkOf w arr).gets (o + i * ve.size) ve.size) := by
                    intro i hi
                    obtain ⟨ci, y, hci, hy⟩ := all i hi
                    obtain ⟨arr', te', fz', hw', _, hle, hlen, hget⟩ := cells_at hci hpos
                    rw [addr_spot_add _ rfl] at hw' hle hget
                    simp only at hw' hle hget
                    rw [hw] at hw'
                    cases hw'
                    refine ⟨hle, ?_⟩
                    rw [gets_eq (l := ci.map (vOf1 w)) (by simp [hlen]) (fun j hj => ?_)]
                    · exact ih m e ve ci y hok hy
                    · have h1 := hget j hj
                      rw [List.getElem?_eq_getElem (by omega)] at h1
                      rw [blkOf_get w arr h1, List.getElem?_map, List.getElem?_eq_getElem (by omega)]
                      rfl
                  refine ⟨_, rfl, .inr (.inr ⟨b, o, len, cap, blkOf w arr, te, vOf1_slice w h0 hop, hlc, h0, Nat.le_trans hcm (by decide), heap0_get hw, ?_, fun i hi => (key i hi).2⟩)⟩
                  have := (key (cap - 1) (by omega)).1
                  rw [blkOf_size]
                  have e1 : cap * ve.size = (cap - 1) * ve.size + ve.size := by
                    conv => lhs; rw [show cap = (cap - 1) + 1 by omega, Nat.add_mul, Nat.one_mul]
                  omega
          · cases h
        · cases h
      · rename_i fs vs hu
        simp only [Bool.and_eq_true] at hv
        obtain ⟨hsz, hok⟩ := hv
        have hsz := Nat.eq_of_beq_eq_true hsz
        rw [hu] at h
        dsimp only at h
        by_cases hl : cs.length = P.cellsOf t
        · rw [if_pos hl] at h
          cases hx : (fs.toList.mapM fun f => DataW.trod enc P w 0 (fun _ => true) true n f.type ((cs.drop f.offset).take (P.cellsOf f.type))) with
          | none => simp [hx] at h
          | some xs =>
            have := trod_fields ih cs m 0 fs.toList vs xs hok (by omega) hx
            rw [List.drop_zero] at this
            exact this
        · rw [if_neg hl] at h; cases h
      · rename_i k e k' ve hu
        simp only [Bool.and_eq_true] at hv
        obtain ⟨⟨⟨hk, hsz⟩, hse⟩, hok⟩ := hv
        have hk := Nat.eq_of_beq_eq_true hk
        have hsz := Nat.eq_of_beq_eq_true hsz
        have hse := Nat.eq_of_beq_eq_true hse
        subst hk
        rw [hu] at h
        dsimp only at h
        by_cases hl : cs.length = P.cellsOf t
        · rw [if_pos hl, hse] at h
          cases hx : ((List.range k).mapM fun i => DataW.trod enc P w 0 (fun _ => true) true n e ((cs.drop (i * ve.size)).take ve.size)) with
          | none => simp [hx] at h
          | some xs =>
            refine ⟨by simp; omega, fun i hi => ?_⟩
            obtain ⟨y, hy⟩ := range_mapM hx i (List.mem_range.2 hi)
            rw [← List.map_drop, ← List.map_take]
            exact ih m e ve _ y hok hy
        · rw [if_neg hl] at h; cases h
      · cases hv
end
end Go.Vm
