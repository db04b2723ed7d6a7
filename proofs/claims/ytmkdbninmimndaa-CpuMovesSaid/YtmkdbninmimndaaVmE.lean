/- The virtual machine's operations, one by one: moves, addresses, loads, stores, new blocks. -/
import Derived.Test.YtmkdbninmimndaaVmD
import Derived.Laws.MakeOwn
set_option linter.unusedVariables false
set_option linter.unusedSimpArgs false
namespace Go.Vm
variable {P : Program} {tm : Tm} {o : Oper} {h : Heap}

theorem addr_add (σ : Ren) (b off i : Nat) : (reA σ (b, off)).add i = reA σ (b, off + i) := by
  unfold Addr.add reA; split
  · rename_i e; subst e; rfl
  · simp [Nat.add_assoc]

def V.one : V → Bool
  | .agg _ => false
  | .tuple _ => false
  | .raw _ => false
  | _ => true
def V.cellsV : V → List V
  | .agg c => c
  | .raw x => x.cells.toList.map .raw
  | v => [v]
theorem cellsV_re (σ : Ren) (v : V) : (v.re σ).cells = (v.cellsV.map (V.re σ)).toArray := by
  cases v with
  | agg c => simp [V.re, Value.cells, V.cellsV, V.reL_eq]
  | raw x =>
    have : ∀ l : List Value, l.map (V.re σ ∘ V.raw) = l := fun l => by induction l with
      | nil => rfl
      | cons a l ih => simp [V.re, ih]
    simp [V.re, V.cellsV, this]
  | ptr a => cases a <;> simp [V.re, Value.cells, V.cellsV]
  | slice a n c ex => cases a <;> simp [V.re, Value.cells, V.cellsV]
  | _ => simp [V.re, Value.cells, V.cellsV]
theorem cellsV_on {σ : Ren} {v : V} (hv : v.on σ) : ∀ u ∈ v.cellsV, u.on σ := by
  cases v with
  | agg c => exact (V.onL_iff σ c).1 hv
  | raw x =>
    intro u hu
    obtain ⟨y, _, rfl⟩ := List.mem_map.1 hu
    trivial
  | _ => intro u hu; simp [V.cellsV] at hu; subst hu; exact hv
theorem one_re {σ : Ren} {v : V} (hv : v.one = true) : (v.re σ).oneCell' = true := by
  cases v with
  | slice a n c ex => cases a <;> rfl
  | agg c => cases hv
  | tuple c => cases hv
  | raw c => cases hv
  | _ => rfl
def allOne : List V → Bool
  | [] => true
  | v :: r => match v.one with
    | true => allOne r
    | false => false
theorem allOne_mem : ∀ {l : List V}, allOne l = true → ∀ v ∈ l, v.one = true
  | v :: r, h, u, hu => by
    unfold allOne at h
    split at h
    · rename_i hv
      rcases List.mem_cons.1 hu with rfl | hu
      · exact hv
      · exact allOne_mem h u hu
    · cases h

/-! ### cells -/
theorem cells_rel {H : HF} {σ : Ren} {w : World} (hi : Inv P H σ w) {b : Nat} {c : Blk} {e : TypeId} (hg : H b = some (.cells c e)) :
    ∃ l arr fz, (c.ro = false → FzOk arr.size fz) ∧ σ b = some l ∧ w.heap[l.blk]? = some (.cells arr e fz) ∧ arr.size = l.sh + c.size + l.slk * P.cellsOf e ∧ ∀ i, i < c.size → (c.get i).on σ ∧ arr[l.sh + i]? = some ((c.get i).re σ) := by
  obtain ⟨l, hl, arr, ⟨fz, hz, h1⟩, h2, h3⟩ := hi.rel b _ hg rfl
  exact ⟨l, arr, fz, hz, hl, h1, h2, h3⟩
theorem cell_of_rel {H : HF} {σ : Ren} {w : World} (hi : Inv P H σ w) {b : Nat} {c : Blk} {e : TypeId} (hg : H b = some (.cells c e)) {i : Nat} (hlt : i < c.size) :
    (c.get i).on σ ∧ w.cell? (reA σ (b, i)) = some ((c.get i).re σ) := by
  obtain ⟨l, arr, fz, hz, hl, h1, h2, h3⟩ := cells_rel hi hg
  refine ⟨(h3 i hlt).1, ?_⟩
  simp [World.cell?, reA, Ren.b_eq hl, Ren.s_eq hl, h1, (h3 i hlt).2]
theorem onL_gets {σ : Ren} {c : Blk} (hc : ∀ i, i < c.size → (c.get i).on σ) (off k : Nat) (hk : off + k ≤ c.size) : V.onL σ (c.gets off k) := by
  rw [V.onL_iff]
  intro v hv
  obtain ⟨j, hj, rfl⟩ := List.getElem_of_mem hv
  have hj' : j < k := by rw [Blk.length_gets] at hj; exact hj
  have := Blk.gets_get c k off j hj'
  rw [List.getElem?_eq_getElem hj, Option.some.injEq] at this
  rw [this]
  exact hc _ (by omega)
theorem loadCells_rel {H : HF} {σ : Ren} {w : World} (hi : Inv P H σ w) {b : Nat} {c : Blk} {e : TypeId} (hg : H b = some (.cells c e)) (off n : Nat) (hn : off + n ≤ c.size) :
    V.onL σ (c.gets off n) ∧ (loadCells (reA σ (b, off)) n).run P w = .ok (V.reL σ (c.gets off n)).toArray w := by
  refine ⟨onL_gets (fun i hlt => (cell_of_rel hi hg hlt).1) off n hn, ?_⟩
  have hl : ((c.gets off n).map (V.re σ)).length = n := by simp [Blk.length_gets]
  have := run_loadCells_list (P := P) w (reA σ (b, off)) ((c.gets off n).map (V.re σ)) (fun j v hv => by
    rw [List.getElem?_map] at hv
    by_cases hj : j < n
    · rw [Blk.gets_get c n off j hj] at hv
      simp at hv
      rw [addr_add, (cell_of_rel hi hg (by omega)).2, hv]
    · rw [List.getElem?_eq_none (by rw [Blk.length_gets]; omega)] at hv
      cases hv)
  rwa [hl, ← V.reL_eq] at this

theorem splice_get (l vs : List Value) (k i : Nat) (hk : k + vs.length ≤ l.length) :
    (l.take k ++ vs ++ l.drop (k + vs.length))[i]? = if k ≤ i ∧ i < k + vs.length then vs[i - k]? else l[i]? := by
  by_cases h1 : i < k
  · rw [List.append_assoc, List.getElem?_append_left (by simp; omega), List.getElem?_take_of_lt h1, if_neg (by omega)]
  · by_cases h2 : i < k + vs.length
    · rw [List.getElem?_append_left (by simp; omega), List.getElem?_append_right (by simp; omega), if_pos (by omega)]
      congr 1; simp; omega
    · rw [List.getElem?_append_right (by simp; omega), List.getElem?_drop, if_neg (by omega)]
      congr 1; simp; omega

theorem FzOk.of_size {n m : Nat} {fz : Nat × Nat} (h : FzOk n fz) (e : m = n) : FzOk m fz := e ▸ h
/-- Cells are stored one after the other; none of them is frozen. -/
theorem run_storeCells_fz (g o : Nat) (t : TypeId) {n : Nat} {fz : Nat × Nat} (hz : FzOk n fz) : ∀ (vs : List Value) (i : Nat) (cur : Array Value) (w : World), cur.size = n → w.heap[g]? = some (.cells cur t fz) → o + i + vs.length ≤ cur.size → (∀ v ∈ vs, v.oneCell' = true) →
    (storeCells ⟨g, o, none⟩ vs i).run P w = .ok () (w.setRow g (cur.toList.take (o + i) ++ vs ++ cur.toList.drop (o + i + vs.length)).toArray) := by
  intro vs
  induction vs with
  | nil =>
    intro i cur w _ hg _ _
    simp only [storeCells, List.append_nil, List.length_nil, Nat.add_zero, List.take_append_drop, Array.toArray_toList, setRow_self w g cur t fz hg]
    rfl
  | cons v rest ih =>
    intro i cur w hn hg hl h1
    rw [List.length_cons] at hl
    have hi : o + i < cur.size := by omega
    have hadd : (⟨g, o, none⟩ : Addr).add i = ⟨g, o + i, none⟩ := by unfold Addr.add; split <;> simp_all
    have hfro : w.frozen? ⟨g, o + i, none⟩ = false := by
      simp only [World.frozen?, hg]
      rcases hz with rfl | hz
      · simp
      · have : ¬ (fz.1 ≤ o + i) := by omega
        simp [this]
    have hst : (store ((⟨g, o, none⟩ : Addr).add i) v).run P w = .ok () (w.setRow g (cur.setIfInBounds (o + i) v)) := by
      rw [hadd, run_store P w _ v _ (h1 v (List.mem_cons_self ..)), show w.cell? ⟨g, o + i, none⟩ = some cur[o + i] by simp [World.cell?, hg, hi]]
      simp [hfro, setCell_eq_setRow w g (o + i) cur t fz v hg]
    have hr := ih (i + 1) (cur.setIfInBounds (o + i) v) (w.setRow g (cur.setIfInBounds (o + i) v)) (by simpa using hn) (setRow_heap w g cur _ t fz hg) (by rw [Array.size_setIfInBounds]; omega) (fun x hx => h1 x (List.mem_cons_of_mem _ hx))
    have e := list_seg_step cur.toList (o + i) v rest (by rw [Array.length_toList]; omega)
    simp only [storeCells, Sem.run_bind, hst, Result.andThen_ok, hr, setRow_setRow, Array.toList_setIfInBounds, List.length_cons]
    rw [← e]
    congr 3

/-- Cells that are stored. -/
theorem storeCells_rel {σ : Ren} {w : World} {l : Loc} {b : Nat} {c : Blk} {e : TypeId} (hl : σ b = some l) (hB : BRel P σ l (.cells c e) w.heap[l.blk]?) (hro : c.ro = false) (off : Nat) (vs : List V) (hn : off + vs.length ≤ c.size)
    (h1 : ∀ v ∈ vs, v.one = true) (hon : ∀ v ∈ vs, v.on σ) :
    ∃ w', (storeCells (reA σ (b, off)) (vs.map (V.re σ))).run P w = .ok () w' ∧ w'.heap.size = w.heap.size ∧ (∀ k, k ≠ l.blk → w'.heap[k]? = w.heap[k]?) ∧ w'.os = w.os ∧ w'.tape = w.tape ∧ w'.output = w.output ∧
      BRel P σ l (.cells (c.putA off vs) e) w'.heap[l.blk]? := by
  obtain ⟨arr, ⟨fz, hfz, ha⟩, hsz, hc⟩ := hB
  have hfz := hfz hro
  have hrun := run_storeCells_fz (P := P) l.blk (l.sh + off) e hfz (vs.map (V.re σ)) 0 arr w rfl ha (by simp; omega) (fun v hv => by
    obtain ⟨u, hu, rfl⟩ := List.mem_map.1 hv
    exact one_re (h1 u hu))
  have hA : reA σ (b, off) = ⟨l.blk, l.sh + off, none⟩ := by simp [reA, Ren.b_eq hl, Ren.s_eq hl]
  rw [hA]
  refine ⟨_, hrun, by simp, fun k hk => setRow_other w _ k _ hk, rfl, rfl, rfl, ?_⟩
  rw [setRow_heap w l.blk arr _ e fz ha]
  refine ⟨_, ⟨fz, fun _ => hfz.of_size (by simp; omega), rfl⟩, ?_, fun i hlt => ?_⟩
  · simp [Blk.size_putA]; omega
  · rw [Blk.size_putA] at hlt
    have hg : (arr.toList.take (l.sh + off + 0) ++ vs.map (V.re σ) ++ arr.toList.drop (l.sh + off + 0 + (vs.map (V.re σ)).length)).toArray[l.sh + i]? = if l.sh + off ≤ l.sh + i ∧ l.sh + i < l.sh + off + (vs.map (V.re σ)).length then (vs.map (V.re σ))[l.sh + i - (l.sh + off)]? else arr[l.sh + i]? := by
      rw [List.getElem?_toArray, Nat.add_zero, splice_get _ _ _ _ (by simp; omega), ← Array.getElem?_toList]
    rw [hg, Blk.get_putA _ _ _ _ hlt]
    by_cases hh : off ≤ i ∧ i < off + vs.length
    · rw [if_pos hh, if_pos (by simp; omega)]
      have hlt' : i - off < vs.length := by omega
      have : vs.getD (i - off) undefV = vs[i - off] := by simp [List.getD, List.getElem?_eq_getElem hlt']
      rw [this, show l.sh + i - (l.sh + off) = i - off by omega]
      exact ⟨hon _ (List.getElem_mem _), by simp [List.getElem?_eq_getElem hlt']⟩
    · rw [if_neg hh, if_neg (by simp; omega)]
      exact hc i hlt

/-! ### moves -/
theorem ok_move {x : Operand} {v : V} (ho : o.op = .move x ∨ o.op = .assign x) (hv : evV tm x = some v) : PrimOk P tm o h ⟨v, h, [], []⟩ :=
  PrimOk.pure fun σ w ρ he => by
    have hx := he x (by rcases ho with ho | ho <;> simp [ho, Op.operands]) v hv
    exact ⟨hx.1, by rcases ho with ho | ho <;> simp [execOp, ho, hx.2]⟩

theorem ok_pick {c a b : Operand} {t : Bool} {v : V} (ho : o.op = .pick c a b) (hc : evV tm c = some (.bool t)) (hv : evV tm (if t then a else b) = some v) : PrimOk P tm o h ⟨v, h, [], []⟩ :=
  PrimOk.pure fun σ w ρ he => by
    have h1 := he c (by simp [ho, Op.operands]) _ hc
    have h2 := he _ (by cases t <;> simp [ho, Op.operands]) v hv
    refine ⟨h2.1, ?_⟩
    have h1' := h1.2
    have h2' := h2.2
    cases t <;> simp_all [execOp, asBool, V.re]

theorem ok_bin {op : BinOp} {t t' : TypeId} {x y : Operand} {vx vy v : V} (ho : o.op = .binOp op t x y t') (hx : evV tm x = some vx) (hy : evV tm y = some vy) (hv : binV P op t vx vy = some v) : PrimOk P tm o h ⟨v, h, [], []⟩ :=
  PrimOk.pure fun σ w ρ he => by
    have h1 := binV_sound hv x y w σ
    refine ⟨h1.2, ?_⟩
    simp only [execOp, ho, (he x (by simp [ho, Op.operands]) vx hx).2, (he y (by simp [ho, Op.operands]) vy hy).2]
    rw [Sem.run_bind, h1.1]; rfl

theorem ok_un {op : UnOp} {t : TypeId} {x : Operand} {vx v : V} (ho : o.op = .unOp op t x) (hx : evV tm x = some vx) (hv : unV op vx = some v) : PrimOk P tm o h ⟨v, h, [], []⟩ :=
  PrimOk.pure fun σ w ρ he => by
    have h1 := unV_sound (P := P) hv w σ
    refine ⟨h1.2, ?_⟩
    simp only [execOp, ho, (he x (by simp [ho, Op.operands]) vx hx).2]
    rw [Sem.run_bind, h1.1]; rfl

def notNil : V → Bool
  | .ptr none => false
  | .nilIface => false
  | .nilFunc => false
  | .raw _ => false
  | _ => true
theorem ok_nilCheck {x : Operand} {v : V} (ho : o.op = .nilCheck x) (hv : evV tm x = some v) (hn : notNil v = true) : PrimOk P tm o h ⟨v, h, [], []⟩ :=
  PrimOk.pure fun σ w ρ he => by
    have hx := he x (by simp [ho, Op.operands]) v hv
    refine ⟨hx.1, ?_⟩
    simp only [execOp, ho, hx.2]
    cases v with
    | ptr a => cases a <;> simp_all [notNil, V.re]
    | slice a n c ex => cases a <;> simp [V.re]
    | nilIface => cases hn
    | nilFunc => cases hn
    | raw x => cases hn
    | _ => simp [V.re]

theorem ok_makeFunc {f : FuncId} {xs ys : Array Operand} {us vs : List V} (ho : o.op = .makeFunc (.func f) xs ys) (hx : evVs tm xs.toList = some us) (hy : evVs tm ys.toList = some vs) : PrimOk P tm o h ⟨.func f us vs, h, [], []⟩ :=
  PrimOk.pure fun σ w ρ he => by
    have h1 := evVs_rel (ρ := ρ) xs.toList us (fun x hx => he x (by simp only [ho, Op.operands, Array.mem_append]; exact .inl (Array.mem_toList_iff.1 hx))) hx
    have h2 := evVs_rel (ρ := ρ) ys.toList vs (fun x hx => he x (by simp only [ho, Op.operands, Array.mem_append]; exact .inr (Array.mem_toList_iff.1 hx))) hy
    have e1 : xs.map ρ = (V.reL σ us).toArray := by rw [← h1.2, ← Array.toList_map, Array.toArray_toList]
    have e2 : ys.map ρ = (V.reL σ vs).toArray := by rw [← h2.2, ← Array.toList_map, Array.toArray_toList]
    exact ⟨⟨h1.1, h2.1⟩, by simp [execOp, ho, Instr.makeFunc, e1, e2, V.re]⟩

theorem ok_extract {x : Operand} {i : Nat} {vs : List V} {v : V} (ho : o.op = .extract x i) (hx : evV tm x = some (.tuple vs)) (hv : vs[i]? = some v) : PrimOk P tm o h ⟨v, h, [], []⟩ :=
  PrimOk.pure fun σ w ρ he => by
    have h1 := he x (by simp [ho, Op.operands]) _ hx
    refine ⟨(V.onL_iff _ _).1 (show V.onL σ vs from h1.1) v (List.mem_of_getElem? hv), ?_⟩
    simp only [execOp, ho, h1.2, V.re, Instr.extract, V.reL_eq]
    simp [hv]

/-! ### addresses -/
def fieldOff (P : Program) (s : TypeId) (f : Nat) : Option Nat := match P.underlying s with
  | some (.struct fs) => match fs[f]? with
    | some fl => match szV P fl.type with
      | some n => match Nat.beq n 0 with
        | true => none
        | false => some fl.offset
      | none => none
    | none => none
  | _ => none
theorem ok_fieldAddr {s : TypeId} {x : Operand} {f b off k : Nat} (ho : o.op = .fieldAddr s x f) (hx : evV tm x = some (.ptr (some (b, off)))) (hf : fieldOff P s f = some k) : PrimOk P tm o h ⟨.ptr (some (b, off + k)), h, [], []⟩ :=
  PrimOk.pure fun σ w ρ he => by
    have h1 := he x (by simp [ho, Op.operands]) _ hx
    refine ⟨show σ.is b from h1.1, ?_⟩
    unfold fieldOff at hf
    split at hf
    · rename_i fs hu
      split at hf
      · rename_i fl hfl
        split at hf
        · rename_i n hn
          split at hf
          · cases hf
          · rename_i hz
            cases hf
            have hz' : n ≠ 0 := fun e => by subst e; simp at hz
            have h2 : (fieldPlace (reA σ (b, off)) fl).run P w = .ok (reA σ (b, off + fl.offset)) w := by
              simp only [fieldPlace, Sem.run_bind, run_szV hn, Result.andThen_ok, if_neg hz']
              simp [addr_add]
            simp only [execOp, ho, h1.2, V.re, Option.map_some, Instr.fieldAt]
            simp [run_underlying hu, hfl, Instr.sureAddr, h2]
        · cases hf
      · cases hf
    · cases hf

def idxSlice (P : Program) (t : TypeId) : Option Nat := match P.underlying t with
  | some (.slice e) => szV P e
  | _ => none
theorem ok_indexAddr_slice {t : TypeId} {x ix : Operand} {b off len cap sz : Nat} {ex : Bool} {k : IntKind} {i : Int} (ho : o.op = .indexAddr t x ix)
    (hx : evV tm x = some (.slice (some (b, off)) len cap ex)) (hi : evV tm ix = some (.int k i)) (hs : idxSlice P t = some sz) (h0 : 0 ≤ i) (h1 : i < len) :
    PrimOk P tm o h ⟨.ptr (some (b, off + i.toNat * sz)), h, [], []⟩ :=
  PrimOk.pure fun σ w ρ he => by
    have e1 := he x (by simp [ho, Op.operands]) _ hx
    have e2 := he ix (by simp [ho, Op.operands]) _ hi
    refine ⟨show σ.is b from e1.1, ?_⟩
    unfold idxSlice at hs
    split at hs
    · rename_i e hu
      simp only [execOp, ho, e1.2, e2.2, V.re, Instr.indexAt]
      simp [run_underlying hu, asIntOf, h0, h1, run_szV hs, addr_add]
    · cases hs

def idxArray (P : Program) (t : TypeId) : Option (Nat × Nat) := match P.underlying t with
  | some (.array n e) => match szV P e with
    | some s => some (n, s)
    | none => none
  | _ => none
theorem ok_indexAddr_array {t : TypeId} {x ix : Operand} {b off len sz : Nat} {k : IntKind} {i : Int} (ho : o.op = .indexAddr t x ix)
    (hx : evV tm x = some (.ptr (some (b, off)))) (hi : evV tm ix = some (.int k i)) (hs : idxArray P t = some (len, sz)) (h0 : 0 ≤ i) (h1 : i < len) :
    PrimOk P tm o h ⟨.ptr (some (b, off + i.toNat * sz)), h, [], []⟩ :=
  PrimOk.pure fun σ w ρ he => by
    have e1 := he x (by simp [ho, Op.operands]) _ hx
    have e2 := he ix (by simp [ho, Op.operands]) _ hi
    refine ⟨show σ.is b from e1.1, ?_⟩
    unfold idxArray at hs
    split at hs
    · rename_i n e hu
      split at hs
      · rename_i s hsz
        cases hs
        simp only [execOp, ho, e1.2, e2.2, V.re, Option.map_some, Instr.indexAt]
        simp [run_underlying hu, asIntOf, Instr.sureAddr, h0, h1, run_szV hsz, addr_add]
      · cases hs
    · cases hs

/-! ### loads and stores -/
def loadV (P : Program) (t : TypeId) (h : Heap) (b off : Nat) : Option V := match h.get b with
  | some (.cells c _) => match aggV P t with
    | some true => match szV P t with
      | some n => match Nat.ble (off + n) c.size with
        | true => some (.agg (c.gets off n))
        | false => none
      | none => none
    | some false => match Nat.blt off c.size with
      | true => some (c.get off)
      | false => none
    | none => none
  | _ => none

theorem ok_load {t : TypeId} {x : Operand} {b off : Nat} {v : V} (ho : o.op = .load t x) (hx : evV tm x = some (.ptr (some (b, off)))) (hv : loadV P t h b off = some v) : PrimOk P tm o h ⟨v, h, [b], []⟩ := by
  unfold loadV at hv
  split at hv
  · rename_i c e hg
    split at hv
    · rename_i ha
      split at hv
      · rename_i n hn
        split at hv
        · rename_i hle
          have hle : off + n ≤ c.size := Nat.le_of_ble_eq_true hle
          cases hv
          refine PrimOk.read (fun H σ w ρ he hr hi => ?_) (by simp; exact Heap.get_lt hg)
          have h1 := he x (by simp [ho, Op.operands]) _ hx
          have h2 := loadCells_rel hi (by rw [hr b (by simp), hg]) off n hle
          refine ⟨h2.1, ?_⟩
          simp only [execOp, ho, h1.2, V.re, Option.map_some, Instr.loadAt, Instr.sureAddr, loadVar]
          simp [run_aggV ha, run_szV hn, h2.2]
        · cases hv
      · cases hv
    · rename_i ha
      split at hv
      · rename_i hlt
        have hlt : off < c.size := Nat.blt_eq.mp hlt
        cases hv
        refine PrimOk.read (fun H σ w ρ he hr hi => ?_) (by simp; exact Heap.get_lt hg)
        have h1 := he x (by simp [ho, Op.operands]) _ hx
        have h2 := cell_of_rel hi (show H b = some (.cells c e) by rw [hr b (by simp), hg]) hlt
        refine ⟨h2.1, ?_⟩
        simp only [execOp, ho, h1.2, V.re, Option.map_some, Instr.loadAt, Instr.sureAddr, loadVar]
        simp [run_aggV ha, load, Sem.run, h2.2]
      · cases hv
    · cases hv
  · cases hv

def storeV (P : Program) (t : TypeId) (h : Heap) (b off : Nat) (v : V) : Option Heap := match h.get b with
  | some (.cells c e) => match szV P t with
    | some n => match Nat.beq v.cellsV.length n with
      | true => match Nat.ble (off + v.cellsV.length) c.size with
        | true => match allOne v.cellsV with
          | true => match c.ro with
            | false => some (h.set b (.cells (c.putA off v.cellsV) e))
            | true => none
          | false => none
        | false => none
      | false => none
    | none => none
  | _ => none
theorem ok_store {t : TypeId} {x y : Operand} {b off : Nat} {v : V} {h' : Heap} (ho : o.op = .store t x y) (hx : evV tm x = some (.ptr (some (b, off)))) (hy : evV tm y = some v) (hv : storeV P t h b off v = some h') : PrimOk P tm o h ⟨undefV, h', [], [b]⟩ := by
  unfold storeV at hv
  split at hv
  · rename_i c e hg
    split at hv
    · rename_i n hn
      split at hv
      · rename_i hlen
        have hlen : v.cellsV.length = n := Nat.eq_of_beq_eq_true hlen
        split at hv
        · rename_i hle
          have hle : off + v.cellsV.length ≤ c.size := Nat.le_of_ble_eq_true hle
          split at hv
          · rename_i hone
            split at hv
            case h_2 => cases hv
            rename_i hro
            cases hv
            refine PrimOk.write hg rfl rfl fun H σ w ρ he hr hi l hl hB => ?_
            have h1 := he x (by simp [ho, Op.operands]) _ hx
            have h2 := he y (by simp [ho, Op.operands]) _ hy
            obtain ⟨w', hrun, e1, e2, e3, e4, e5, hB'⟩ := storeCells_rel hl hB hro off v.cellsV hle (allOne_mem hone) (cellsV_on h2.1)
            refine ⟨w', .skip, undef, e1, e2, e3, e4, e5, hB', .inr ⟨rfl, rfl⟩, ⟨undefV_on _, (undefV_re _).symm⟩, ?_⟩
            simp only [execOp, ho, h1.2, h2.2, Instr.storeAt, storeVar, cellsV_re]
            simp [V.re, Instr.sureAddr, run_szV hn, hlen, hrun]
          · cases hv
        · cases hv
      · cases hv
    · cases hv
  · cases hv

/-! ### new blocks -/
def zeroV (P : Program) (t : TypeId) : Option V := match P.info? t with
  | some i => match i.zero with
    | some z => toV 100000 z
    | none => none
  | none => none
theorem run_zeroV {t : TypeId} {v : V} (hz : zeroV P t = some v) (w : World) (σ : Ren) : v.on σ ∧ (zeroValue t).run P w = .ok (v.re σ) w := by
  unfold zeroV at hz
  split at hz
  · rename_i i hi
    split at hz
    · rename_i z hzz
      have := (toV_both _).1 z v hz σ
      exact ⟨this.1, by simp [zeroValue, typeInfo, hi, hzz, this.2]⟩
    · cases hz
  · cases hz

theorem brel_of {σ : Ren} {k s : Nat} {vs : List V} {e : TypeId} (hs : s = 0) (hon : ∀ v ∈ vs, v.on σ) : BRel P σ ⟨k, 0, s⟩ (.cells (Blk.of vs) e) (some (.cells (vs.map (V.re σ)).toArray e (0, 0))) := by
  subst hs
  refine ⟨_, ⟨_, fun _ => .inl rfl, rfl⟩, by simp [Blk.of], fun i hi => ?_⟩
  have hi' : i < vs.length := hi
  rw [Blk.get_of vs i hi']
  have : vs.getD i undefV = vs[i] := by simp [List.getD, List.getElem?_eq_getElem hi']
  rw [this]
  exact ⟨hon _ (List.getElem_mem _), by simp [List.getElem?_eq_getElem hi']⟩

theorem on_new (σ : Ren) (n : Nat) (l : Loc) : (σ.upd n l).is n := ⟨l, Ren.upd_same σ n l⟩
theorem reA_new (σ : Ren) (n : Nat) (l : Loc) (off : Nat) : reA (σ.upd n l) (n, off) = ⟨l.blk, l.sh + off, none⟩ := by
  simp [reA, Ren.b_eq (Ren.upd_same σ n l), Ren.s_eq (Ren.upd_same σ n l)]

theorem ok_box {t : TypeId} {x : Operand} {v : V} (ho : o.op = .box t x) (hx : evV tm x = some v) : PrimOk P tm o h ⟨.ptr (some (h.n, 0)), h.push (.cells (Blk.of v.cellsV) t), [], []⟩ :=
  PrimOk.make rfl fun H σ w ρ he hr hi hn => by
    have h1 := he x (by simp [ho, Op.operands]) _ hx
    have hle := Ren.le_upd hn ⟨w.heap.size, 0, 0⟩
    have h2 := V.on_le hle v h1.1
    refine ⟨w, .cells (v.re σ).cells t, 0, rfl, rfl, rfl, rfl, ?_, on_new _ _ _, ?_⟩
    · rw [← h2.2, cellsV_re]; exact brel_of rfl (cellsV_on h2.1)
    · simp only [execOp, ho, h1.2, Instr.box, newVar, newRow, newObj, V.re, Option.map_some, reA_new]
      simp [Sem.run]
theorem ok_alloc {t : TypeId} {v : V} (ho : o.op = .alloc t) (hz : zeroV P t = some v) : PrimOk P tm o h ⟨.ptr (some (h.n, 0)), h.push (.cells (Blk.of v.cellsV) t), [], []⟩ :=
  PrimOk.make rfl fun H σ w ρ he hr hi hn => by
    have h1 := run_zeroV hz w (σ.upd h.n ⟨w.heap.size, 0, 0⟩)
    refine ⟨w, .cells (v.re (σ.upd h.n ⟨w.heap.size, 0, 0⟩)).cells t, 0, rfl, rfl, rfl, rfl, ?_, on_new _ _ _, ?_⟩
    · rw [cellsV_re]; exact brel_of rfl (cellsV_on h1.1)
    · simp only [execOp, ho, Instr.alloc, newVar, newRow, newObj, V.re, Option.map_some, reA_new]
      simp [h1.2, Sem.run]

end Go.Vm
