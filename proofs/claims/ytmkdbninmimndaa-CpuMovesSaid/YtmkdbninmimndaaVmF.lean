/- The virtual machine's operations: structs, arrays, slices, strings. -/
import Derived.Test.YtmkdbninmimndaaVmE
import Derived.Laws.AppendOwn
set_option linter.unusedVariables false
set_option linter.unusedSimpArgs false
namespace Go.Vm
variable {P : Program} {tm : Tm} {o : Oper} {h : Heap}

/-! ### make -/
theorem brel_rep {σ : Ren} {k s n : Nat} {vs : List V} {e : TypeId} (hs : s = 0) (hz : n = 0 ∨ vs ≠ []) (hon : ∀ v ∈ vs, v.on σ) : BRel P σ ⟨k, 0, s⟩ (.cells (Blk.rep n vs) e) (some (.cells (madeCells (vs.map (V.re σ)).toArray n) e (0, 0))) := by
  subst hs
  refine ⟨_, ⟨_, fun _ => .inl rfl, rfl⟩, by simp [Blk.rep, size_madeCells], fun i hi => ?_⟩
  have hi' : i < n := hi
  have hl : 0 < vs.length := List.length_pos_iff.2 (hz.resolve_left (by omega))
  have hm : i % vs.length < vs.length := Nat.mod_lt _ hl
  have hg : (Blk.rep n vs).get i = vs[i % vs.length] := by simp [Blk.get, layGet, Blk.rep, Tr.get_nil, List.getD, List.getElem?_eq_getElem hm]
  rw [hg]
  refine ⟨hon _ (List.getElem_mem _), ?_⟩
  simp [madeCells, hi', hm]

def makeSliceV (P : Program) (t : TypeId) (l c : Int) (h : Heap) : Option (V × Heap) := match P.underlying t with
  | some (.slice e) => match P.info? e with
    | some i => match zeroV P e with
      | some z => if 0 ≤ l ∧ l ≤ c ∧ i.bytes * c.toNat ≤ 281474976710656 ∧ c ≤ 9223372036854775807 ∧ (Nat.beq (c.toNat * i.size) 0 = true ∨ Nat.blt 0 z.cellsV.length = true) then
          some (.slice (some (h.n, 0)) l.toNat c.toNat true, h.push (.cells (Blk.rep (c.toNat * i.size) z.cellsV) e)) else none
      | none => none
    | none => none
  | _ => none
theorem ok_makeSlice {t : TypeId} {x y : Operand} {k k' : IntKind} {l c : Int} {v : V} {h' : Heap} (ho : o.op = .makeSlice t x y) (hx : evV tm x = some (.int k l)) (hy : evV tm y = some (.int k' c)) (hv : makeSliceV P t l c h = some (v, h')) :
    PrimOk P tm o h ⟨v, h', [], []⟩ := by
  unfold makeSliceV at hv
  split at hv
  · rename_i e hu
    split at hv
    · rename_i i hi
      split at hv
      · rename_i z hz
        split at hv
        · rename_i hc
          obtain ⟨h0, hlc, hb, h63, hzz⟩ := hc
          cases hv
          refine PrimOk.make rfl fun H σ w ρ he hr hI hn => ?_
          have h1 := he x (by simp [ho, Op.operands]) _ hx
          have h2 := he y (by simp [ho, Op.operands]) _ hy
          have hz1 := run_zeroV hz w (σ.upd h.n ⟨w.heap.size, 0, 0⟩)
          have hzero : i.zero = some (z.re (σ.upd h.n ⟨w.heap.size, 0, 0⟩)) := by
            have := hz1.2
            unfold zeroV at hz
            simp only [hi] at hz
            split at hz
            · rename_i zz hzz
              rw [hzz, ((toV_both _).1 zz z hz _).2]
            · cases hz
          refine ⟨w, .cells (madeCells (z.re (σ.upd h.n ⟨w.heap.size, 0, 0⟩)).cells (c.toNat * i.size)) e, 0, rfl, rfl, rfl, rfl, ?_, on_new _ _ _, ?_⟩
          · rw [cellsV_re]
            exact brel_rep rfl (hzz.imp Nat.eq_of_beq_eq_true fun h => by have := Nat.blt_eq.mp h; intro e; simp [e] at this) (cellsV_on hz1.1)
          · have hb' : (i.bytes : Int) * c ≤ 281474976710656 := by
              have e1 : ((i.bytes * c.toNat : Nat) : Int) = (i.bytes : Int) * c := by rw [Int.natCast_mul, Int.toNat_of_nonneg (by omega)]
              rw [← e1]; omega
            have hm := run_make (P := P) w t e i _ hu hi hzero k k' l c h0 hlc hb' h63
            simp only [execOp, ho, h1.2, h2.2, V.re]
            rw [Sem.run_bind, hm]
            simp [reA_new]
        · cases hv
      · cases hv
    · cases hv
  · cases hv

/-! ### literals -/
def putL (l : List V) (off : Nat) : List V → List V
  | [] => l
  | v :: r => putL (l.set off v) (off + 1) r
theorem length_putL (vs : List V) : ∀ (l : List V) (off : Nat), (putL l off vs).length = l.length := by
  induction vs with
  | nil => intro l off; rfl
  | cons v r ih => intro l off; simp [putL, ih]
theorem putL_on {σ : Ren} (vs : List V) (hvs : ∀ v ∈ vs, v.on σ) : ∀ (l : List V) (off : Nat), (∀ v ∈ l, v.on σ) → ∀ v ∈ putL l off vs, v.on σ := by
  induction vs with
  | nil => intro l off hl; exact hl
  | cons v r ih =>
    intro l off hl
    refine ih (fun u hu => hvs u (by simp [hu])) _ _ fun u hu => ?_
    rcases List.mem_or_eq_of_mem_set hu with hu | rfl
    · exact hl u hu
    · exact hvs _ (by simp)
theorem putL_re (σ : Ren) (vs : List V) : ∀ (l : List V) (off j : Nat),
    (List.zipIdx (vs.map (V.re σ)) j).foldl (fun (cs : Array Value) (x : Value × Nat) => cs.setIfInBounds (off + x.2) x.1) (l.map (V.re σ)).toArray = ((putL l (off + j) vs).map (V.re σ)).toArray := by
  induction vs with
  | nil => intro l off j; rfl
  | cons v r ih =>
    intro l off j
    simp only [List.map_cons, List.zipIdx_cons, List.foldl_cons, putL]
    have : ((l.map (V.re σ)).toArray.setIfInBounds (off + j) (v.re σ)) = ((l.set (off + j) v).map (V.re σ)).toArray := by simp [List.map_set]
    rw [this, ih, Nat.add_assoc]
def fillV (place : Nat → Option (Nat × Nat)) (cells : List V) : List (Nat × V) → Option (List V)
  | [] => some cells
  | (i, v) :: rest => match place i with
    | none => none
    | some (off, size) => if v.cellsV.length = size ∧ off + size ≤ cells.length then fillV place (putL cells off v.cellsV) rest else none
theorem fill_re {σ : Ren} {place : Nat → Option (Nat × Nat)} : ∀ (parts : List (Nat × V)) (cells r : List V), fillV place cells parts = some r → (∀ v ∈ cells, v.on σ) → (∀ p ∈ parts, p.2.on σ) →
    (∀ v ∈ r, v.on σ) ∧ Instr.fill place (cells.map (V.re σ)).toArray (parts.map fun p => (p.1, p.2.re σ)) = some (r.map (V.re σ)).toArray
  | [], cells, r, h, hc, _ => by cases h; exact ⟨hc, rfl⟩
  | (i, v) :: rest, cells, r, h, hc, hp => by
    simp only [fillV] at h
    split at h
    · cases h
    · rename_i off size hpl
      split at h
      · rename_i hh
        have hv := hp (i, v) (by simp)
        have := fill_re (σ := σ) rest _ r h (putL_on _ (cellsV_on hv) _ _ hc) (fun p hpp => hp p (by simp [hpp]))
        refine ⟨this.1, ?_⟩
        simp only [List.map_cons, Instr.fill, hpl, cellsV_re]
        rw [if_neg (by simp [hh.1]; omega), ← this.2]
        congr 1
        have := putL_re σ v.cellsV cells off 0
        simp only [Nat.add_zero] at this
        rw [← this, ← Array.foldl_toList]
        simp
      · cases h

def evParts (tm : Tm) : List (Nat × Operand) → Option (List (Nat × V))
  | [] => some []
  | (i, x) :: r => match evV tm x with
    | some v => match evParts tm r with
      | some vs => some ((i, v) :: vs)
      | none => none
    | none => none
theorem evParts_rel {σ : Ren} {tm : Tm} {ρ : Operand → Value} : ∀ (l : List (Nat × Operand)) (vs : List (Nat × V)), (∀ x ∈ l.map (·.2), ∀ v, evV tm x = some v → VRel σ v (ρ x)) → evParts tm l = some vs →
    (∀ p ∈ vs, p.2.on σ) ∧ l.map (fun p => (p.1, ρ p.2)) = vs.map fun p => (p.1, p.2.re σ)
  | [], vs, _, h => by cases h; exact ⟨by simp, rfl⟩
  | (i, x) :: r, vs, he, h => by
    unfold evParts at h
    split at h
    · rename_i v hv
      split at h
      · rename_i us hus; cases h
        have h1 := he x (by simp) v hv
        have h2 := evParts_rel r us (fun y hy => he y (by simp at hy ⊢; exact .inr hy)) hus
        refine ⟨fun p hp => ?_, by simp [h1.2, h2.2]⟩
        rcases List.mem_cons.1 hp with rfl | hp
        · exact h1.1
        · exact h2.1 p hp
      · cases h
    · cases h

def builtV (P : Program) (t : TypeId) (parts : List (Nat × V)) : Option (List V) := match zeroV P t with
  | some z => match P.underlying t with
    | some (.array _ e) => match P.info? e with
      | some ie => fillV (fun i => some (i * ie.size, ie.size)) z.cellsV parts
      | none => none
    | some (.struct fields) => match fields.toList.mapM (fun f => (P.info? f.type).map fun i => (f.offset, i.size)) with
      | some places => fillV (places.toArray[·]?) z.cellsV parts
      | none => none
    | _ => none
  | none => none
theorem built_re {σ : Ren} {t : TypeId} {parts : List (Nat × V)} {r : List V} (h : builtV P t parts = some r) (hp : ∀ p ∈ parts, p.2.on σ) :
    (∀ v ∈ r, v.on σ) ∧ P.built t (parts.map fun p => (p.1, p.2.re σ)) = some (r.map (V.re σ)).toArray := by
  unfold builtV at h
  split at h
  · rename_i z hz
    have hz1 := run_zeroV hz default σ
    unfold zeroV at hz
    split at hz
    · rename_i it hit
      split at hz
      · rename_i zz hzz
        have hzz' : it.zero = some (z.re σ) := by rw [hzz, ((toV_both _).1 zz z hz σ).2]
        split at h
        · rename_i n e hu
          split at h
          · rename_i ie hie
            have := fill_re (σ := σ) parts _ r h (cellsV_on hz1.1) hp
            refine ⟨this.1, ?_⟩
            simp only [Program.built, hit, hu, hzz', hie, cellsV_re]
            exact this.2
          · cases h
        · rename_i fields hu
          split at h
          · rename_i places hpl
            have := fill_re (σ := σ) parts _ r h (cellsV_on hz1.1) hp
            refine ⟨this.1, ?_⟩
            simp only [Program.built, hit, hu, hzz', hpl, cellsV_re]
            exact this.2
          · cases h
        · cases h
      · cases hz
    · cases hz
  · cases h

theorem mem_parts {parts : Array (Nat × Operand)} {x : Operand} (hx : x ∈ parts.toList.map (·.2)) (t : TypeId) (n : Nat) : x ∈ (Op.build t parts).operands ∧ x ∈ (Op.buildSlice t n parts).operands := by
  simp only [Op.operands, List.mem_toArray]; exact ⟨hx, hx⟩
theorem parts_map {parts : Array (Nat × Operand)} {ρ : Operand → Value} : (parts.map fun (i, x) => (i, ρ x)) = (parts.toList.map fun p => (p.1, ρ p.2)).toArray := by
  apply Array.ext'; simp

theorem ok_build {t : TypeId} {parts : Array (Nat × Operand)} {ps : List (Nat × V)} {r : List V} (ho : o.op = .build t parts) (hp : evParts tm parts.toList = some ps) (hb : builtV P t ps = some r) : PrimOk P tm o h ⟨.agg r, h, [], []⟩ :=
  PrimOk.pure fun σ w ρ he => by
    have h1 := evParts_rel (ρ := ρ) parts.toList ps (fun x hx => he x (by rw [ho]; exact (mem_parts hx t 0).1)) hp
    have h2 := built_re hb h1.1
    refine ⟨(V.onL_iff _ _).2 h2.1, ?_⟩
    simp only [execOp, ho, parts_map, h1.2]
    rw [Sem.run_bind, run_build w t _ _ h2.2]
    simp [V.re, V.reL_eq]

def repL (z : List V) : Nat → Nat → List V
  | _, 0 => []
  | i, n + 1 => z.getD (i % z.length) undefV :: repL z (i + 1) n
theorem length_repL (z : List V) (n : Nat) : ∀ i, (repL z i n).length = n := by
  induction n with
  | zero => intro i; rfl
  | succ n ih => intro i; simp [repL, ih]
theorem repL_get (z : List V) (n : Nat) : ∀ i j, j < n → (repL z i n)[j]? = some (z.getD ((i + j) % z.length) undefV) := by
  induction n with
  | zero => intro i j h; omega
  | succ n ih =>
    intro i j h
    cases j with
    | zero => simp [repL]
    | succ j => simp only [repL, List.getElem?_cons_succ]; rw [ih (i + 1) j (by omega), show i + 1 + j = i + (j + 1) by omega]
theorem repL_re (σ : Ren) (z : List V) (n : Nat) (hz : n = 0 ∨ 0 < z.length) : ((repL z 0 n).map (V.re σ)).toArray = (Array.range n).map ((z.map (V.re σ)).toArray[· % (z.map (V.re σ)).toArray.size]!) := by
  apply Array.ext'
  apply List.ext_getElem?
  intro j
  by_cases hj : j < n
  · have hl : 0 < z.length := hz.resolve_left (by omega)
    have hm : j % z.length < z.length := Nat.mod_lt _ hl
    simp [repL_get z n 0 j hj, hj, hm, List.getD]
  · rw [List.getElem?_eq_none (by simp [length_repL]; omega), List.getElem?_eq_none (by simp; omega)]
theorem repL_on {σ : Ren} {z : List V} (hz : ∀ v ∈ z, v.on σ) (n : Nat) : ∀ i, ∀ v ∈ repL z i n, v.on σ := by
  induction n with
  | zero => intro i v hv; simp [repL] at hv
  | succ n ih =>
    intro i v hv
    simp only [repL, List.mem_cons] at hv
    rcases hv with rfl | hv
    · by_cases hl : 0 < z.length
      · have hm : i % z.length < z.length := Nat.mod_lt _ hl
        simp only [List.getD, List.getElem?_eq_getElem hm, Option.getD_some]
        exact hz _ (List.getElem_mem _)
      · have : z = [] := List.length_eq_zero_iff.1 (by omega)
        subst this; exact undefV_on _
    · exact ih _ v hv

def builtSliceV (P : Program) (t : TypeId) (len : Nat) (parts : List (Nat × V)) : Option (TypeId × List V) := match P.underlying t with
  | some (.slice e) => match szV P e with
    | some size => match zeroV P e with
      | some z => if len * size ≤ 16777216 ∧ (len * size = 0 ∨ 0 < z.cellsV.length) then
          match fillV (fun i => some (i * size, size)) (repL z.cellsV 0 (len * size)) parts with
          | some r => some (e, r)
          | none => none
        else none
      | none => none
    | none => none
  | _ => none
theorem ok_buildSlice {t e : TypeId} {len : Nat} {parts : Array (Nat × Operand)} {ps : List (Nat × V)} {r : List V} (ho : o.op = .buildSlice t len parts) (hp : evParts tm parts.toList = some ps) (hb : builtSliceV P t len ps = some (e, r)) :
    PrimOk P tm o h ⟨.slice (some (h.n, 0)) len len true, h.push (.cells (Blk.of r) e), [], []⟩ := by
  unfold builtSliceV at hb
  split at hb
  · rename_i e' hu
    split at hb
    · rename_i size hs
      split at hb
      · rename_i z hz
        split at hb
        · rename_i hc
          split at hb
          · rename_i r' hf
            cases hb
            refine PrimOk.make rfl fun H σ w ρ he hr hI hn => ?_
            have hle := Ren.le_upd hn ⟨w.heap.size, 0, 0⟩
            have h1 := evParts_rel (ρ := ρ) parts.toList ps (fun x hx => he x (by rw [ho]; exact (mem_parts hx t len).2)) hp
            have hps : ps.map (fun p => (p.1, p.2.re σ)) = ps.map fun p => (p.1, p.2.re (σ.upd h.n ⟨w.heap.size, 0, 0⟩)) := List.map_congr_left fun p hpp => by rw [(V.on_le hle _ (h1.1 p hpp)).2]
            have hz1 := run_zeroV hz w (σ.upd h.n ⟨w.heap.size, 0, 0⟩)
            have h2 := fill_re (σ := σ.upd h.n ⟨w.heap.size, 0, 0⟩) ps _ r hf (repL_on (cellsV_on hz1.1) _ _) (fun p hpp => (V.on_le hle _ (h1.1 p hpp)).1)
            refine ⟨w, .cells (r.map (V.re (σ.upd h.n ⟨w.heap.size, 0, 0⟩))).toArray e, 0, rfl, rfl, rfl, rfl, brel_of rfl h2.1, on_new _ _ _, ?_⟩
            rw [repL_re _ _ _ hc.2] at h2
            simp only [execOp, ho, parts_map, h1.2, hps]
            have hbig : ¬ 16777216 < len * size := by omega
            have h22 := h2.2
            have e0 : ∀ f : Nat → Value, Array.map f (Array.range 0) = #[] := fun f => by simp
            by_cases h0 : len * size = 0
            · rw [h0, e0] at h22
              simp only [Instr.buildSlice, newRow, newObj]
              simp only [Sem.run_bind, run_underlying hu, run_szV hs, Result.andThen_ok, h0]
              rw [if_neg (by decide), if_pos trivial]
              simp only [Sem.run_bind, Sem.run_pure, Result.andThen_ok, e0, h22]
              simp [V.re, reA_new, Sem.run]
            · simp only [Instr.buildSlice, newRow, newObj]
              simp only [Sem.run_bind, run_underlying hu, run_szV hs, Result.andThen_ok]
              rw [if_neg (show ¬ len * size > 2 ^ 24 from hbig), if_neg h0]
              simp only [Sem.run_bind, Sem.run_pure, Result.andThen_ok, hz1.2, cellsV_re, h22]
              simp [V.re, reA_new, Sem.run]
          · cases hb
        · cases hb
      · cases hb
    · cases hb
  · cases hb

/-! ### parts of values -/
def partV (P : Program) (t : TypeId) (c : List V) (off : Nat) : Option V := match aggV P t with
  | some true => match szV P t with
    | some n => some (.agg ((c.drop off).take n))
    | none => none
  | some false => c[off]?
  | none => none
theorem part_re {σ : Ren} {t : TypeId} {c : List V} {off : Nat} {v : V} (hv : partV P t c off = some v) (hc : ∀ u ∈ c, u.on σ) (w : World) : v.on σ ∧ (part t (V.reL σ c).toArray off).run P w = .ok (v.re σ) w := by
  unfold partV at hv
  split at hv
  · rename_i ha
    split at hv
    · rename_i n hn
      cases hv
      refine ⟨(V.onL_iff _ _).2 fun u hu => hc u (List.mem_of_mem_drop (List.mem_of_mem_take hu)), ?_⟩
      simp [part, run_aggV ha, run_szV hn, V.re, V.reL_eq, List.map_drop, List.map_take]
    · cases hv
  · rename_i ha
    refine ⟨hc v (List.mem_of_getElem? hv), ?_⟩
    simp [part, run_aggV ha, V.reL_eq, hv]
  · cases hv
def fieldV (P : Program) (t : TypeId) (c : List V) (f : Nat) : Option V := match P.underlying t with
  | some (.struct fs) => match fs[f]? with
    | some fl => partV P fl.type c fl.offset
    | none => none
  | _ => none
theorem ok_field {t : TypeId} {x : Operand} {f : Nat} {c : List V} {v : V} (ho : o.op = .field t x f) (hx : evV tm x = some (.agg c)) (hv : fieldV P t c f = some v) : PrimOk P tm o h ⟨v, h, [], []⟩ :=
  PrimOk.pure fun σ w ρ he => by
    have h1 := he x (by simp [ho, Op.operands]) _ hx
    unfold fieldV at hv
    split at hv
    · rename_i fs hu
      split at hv
      · rename_i fl hfl
        have h2 := part_re hv ((V.onL_iff _ _).1 (show V.onL σ c from h1.1)) w
        refine ⟨h2.1, ?_⟩
        simp only [execOp, ho, h1.2, V.re, Instr.field]
        simp [run_underlying hu, hfl, asAgg, h2.2]
      · cases hv
    · cases hv
def indexV (P : Program) (t : TypeId) (x : V) (i : Int) : Option V := match P.underlying t, x with
  | some (.array n e), .agg c => if 0 ≤ i ∧ i < n then match szV P e with
      | some s => partV P e c (i.toNat * s)
      | none => none
    else none
  | some .string, .str s => if 0 ≤ i then match s[i.toNat]? with
      | some b => some (.int .u8 b.toNat)
      | none => none
    else none
  | _, _ => none
theorem ok_index {t : TypeId} {x y : Operand} {k : IntKind} {i : Int} {vx v : V} (ho : o.op = .index t x y) (hx : evV tm x = some vx) (hy : evV tm y = some (.int k i)) (hv : indexV P t vx i = some v) : PrimOk P tm o h ⟨v, h, [], []⟩ :=
  PrimOk.pure fun σ w ρ he => by
    have h1 := he x (by simp [ho, Op.operands]) _ hx
    have h2 := he y (by simp [ho, Op.operands]) _ hy
    unfold indexV at hv
    split at hv
    · rename_i n e c hu
      split at hv
      · rename_i hc
        split at hv
        · rename_i s hs
          have h3 := part_re hv ((V.onL_iff _ _).1 (show V.onL σ c from h1.1)) w
          refine ⟨h3.1, ?_⟩
          simp only [execOp, ho, h1.2, h2.2, V.re, Instr.index]
          simp [run_underlying hu, asIntOf, hc, run_szV hs, h3.2]
        · cases hv
      · cases hv
    · rename_i s hu
      split at hv
      · rename_i hc
        split at hv
        · rename_i b hb
          cases hv
          refine ⟨trivial, ?_⟩
          simp only [execOp, ho, h1.2, h2.2, V.re, Instr.index]
          simp [run_underlying hu, asIntOf, hc, hb]
        · cases hv
      · cases hv
    · cases hv

end Go.Vm
