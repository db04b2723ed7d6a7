/- Maps: made, looked up, written, rid of entries; the iterator that a range over one begins with. -/
import Derived.Test.YtmkdbninmimndaaVmH
import Derived.Test.YtmkdbninmimndaaVmFE
import Derived.RangeFuncRecord
set_option linter.unusedVariables false
set_option linter.unusedSimpArgs false
namespace Go.Vm
variable {P : Program} {tm : Tm} {o : Oper} {h : Heap}

abbrev Ents := List (V × V × Nat)

/-! ### keys -/
def findV (P : Program) (kt : TypeId) (k : V) : Ents → Nat → Option (Option (Nat × V))
  | [], _ => some none
  | e :: es, i => match eqD P 10 kt k e.1 with
    | some true => some (some (i, e.2.1))
    | some false => findV P kt k es (i + 1)
    | none => none
def reF (σ : Ren) : Option (Nat × V) → Option (Nat × Value)
  | some (i, v) => some (i, v.re σ)
  | none => none
theorem findAsking_sound {kt : TypeId} {k : V} {σ : Ren} (hk : k.on σ) : ∀ (es : Ents) (i : Nat) (r : Option (Nat × V)), findV P kt k es i = some r → (∀ e ∈ es, onE σ e) → ∀ w,
    (Instr.findAsking kt (k.re σ) (es.map (reE σ)) i).run P w = .ok (reF σ r) w
  | [], i, r, h, _, w => by cases h; simp [Instr.findAsking, reF]
  | e :: es, i, r, h, hon, w => by
    unfold findV at h
    have he := hon e (by simp)
    split at h
    · rename_i hq
      cases h
      have := eqD_sound _ _ _ _ _ hq 10000 σ w (by omega) hk he.1
      simp [Instr.findAsking, Op.equal, Op.maxDepth, reE, this, reF]
    · rename_i hq
      have := eqD_sound _ _ _ _ _ hq 10000 σ w (by omega) hk he.1
      simp only [List.map_cons, Instr.findAsking, Op.equal, Op.maxDepth, reE, Sem.run_bind, this, Result.andThen_ok]
      simpa [reE] using findAsking_sound hk es (i + 1) r h (fun e he => hon e (by simp [he])) w
    · cases h
theorem sameNow_eq {kt : TypeId} {kd : TypeDesc} (hu : P.underlying kt = some kd) {a b : V} {q r : Bool} (h : eqD P 10 kt a b = some q) {σ : Ren} (hs : Instr.sameNow kd (a.re σ) (b.re σ) = some r) : r = q := by
  unfold eqD at h
  unfold Instr.sameNow at hs
  split at h
  · simp [V.re] at hs
  · rw [hu] at h
    simp only [V.re] at hs
    split at h
    · rename_i hk
      cases hk
      split at h
      · rename_i e; cases h; simp [e] at hs; simp [hs]
      · cases h
    · cases h
  · rw [hu] at h
    simp only [V.re] at hs
    split at h
    · rename_i hk; cases hk; cases h; simp at hs; rw [← hs, eqB_bytes, beq_toListBytes]
    · cases h
  · unfold eqSmall at h
    rw [hu] at h
    split at h <;> (try cases h) <;> simp_all [V.re]
theorem findNow_eq {kt : TypeId} {kd : TypeDesc} (hu : P.underlying kt = some kd) {k : V} {σ : Ren} : ∀ (es : Ents) (i : Nat) (r : Option (Nat × V)) (q : Option (Nat × Value)), findV P kt k es i = some r →
    Instr.findNow kd (k.re σ) (es.map (reE σ)) i = some q → q = reF σ r
  | [], i, r, q, h, hq => by cases h; simp [Instr.findNow] at hq; simp [← hq, reF]
  | e :: es, i, r, q, h, hq => by
    unfold findV at h
    simp only [List.map_cons, Instr.findNow] at hq
    split at h
    · rename_i he
      cases h
      split at hq
      · cases hq; rfl
      · rename_i hs; have := sameNow_eq hu he (σ := σ) hs; cases this
      · cases hq
    · rename_i he
      split at hq
      · rename_i hs; have := sameNow_eq hu he (σ := σ) hs; cases this
      · exact findNow_eq hu es (i + 1) r q h hq
      · cases hq
    · cases h
theorem findKey_sound {kt : TypeId} {k : V} {σ : Ren} (hk : k.on σ) {es : Ents} {r : Option (Nat × V)} (h : findV P kt k es 0 = some r) (hon : ∀ e ∈ es, onE σ e) {kd : TypeDesc} (hu : P.underlying kt = some kd) (w : World) :
    (Instr.findKey kt (k.re σ) (es.map (reE σ))).run P w = .ok (reF σ r) w := by
  simp only [Instr.findKey, Sem.run_bind, run_underlying hu, Result.andThen_ok]
  cases hq : Instr.findNow kd (k.re σ) (es.map (reE σ)) 0 with
  | some q => simp [findNow_eq hu es 0 r q h hq]
  | none => exact findAsking_sound hk es 0 r h hon w

/-- A key that has no interface in it, and no array. -/
def keyOk (P : Program) : Nat → TypeId → V → Bool
  | 0, _, _ => false
  | d + 1, t, v => match P.underlying t with
    | some (.interface _) => false
    | some (.array _ _) => false
    | some (.struct fs) => match v with
      | .agg cs => fs.toList.all fun f => decide (f.name = "_") || (match partV P f.type cs f.offset with
        | some a => keyOk P d f.type a
        | none => false)
      | _ => false
    | some _ => true
    | none => false
theorem keyOk_sound (em : Bool) {σ : Ren} : ∀ (d : Nat) (t : TypeId) (v : V), keyOk P d t v = true → v.on σ → ∀ D w, d ≤ D → (Instr.checkKey em D t (v.re σ)).run P w = .ok () w
  | 0, t, v, h => by simp [keyOk] at h
  | d + 1, t, v, h => by
    intro hv D w hD
    obtain ⟨D, rfl⟩ : ∃ D', D = D' + 1 := ⟨D - 1, by omega⟩
    unfold keyOk at h
    split at h
    · cases h
    · cases h
    · rename_i fs hu
      split at h
      · rename_i cs
        simp only [V.re, Instr.checkKey, Sem.run_bind, run_underlying hu, Result.andThen_ok]
        rw [← Array.forIn_toList]
        have hcs := (V.onL_iff σ cs).1 (show V.onL σ cs from hv)
        have key : ∀ (l : List Field), (l.all fun f => decide (f.name = "_") || (match partV P f.type cs f.offset with
            | some a => keyOk P d f.type a
            | none => false)) = true → ∀ w, (forIn (m := Sem) l PUnit.unit fun f _ => (do
              if f.name ≠ "_" then Instr.checkKey em D f.type (← part f.type (V.reL σ cs).toArray f.offset)
              pure (ForInStep.yield PUnit.unit) : Sem (ForInStep PUnit))).run P w = .ok PUnit.unit w := by
          intro l
          induction l with
          | nil => intro _ w; simp
          | cons f l ih =>
            intro hl w
            simp only [List.all_cons, Bool.and_eq_true, Bool.or_eq_true, decide_eq_true_eq] at hl
            simp only [List.forIn_cons, Sem.run_bind, Sem.run_ite]
            by_cases hn : f.name = "_"
            · rw [if_neg (by simp [hn])]
              simp only [Sem.run_pure, Result.andThen_ok]
              exact ih hl.2 w
            · rw [if_pos hn]
              rcases hl.1 with h1 | h1
              · exact absurd h1 hn
              · split at h1
                · rename_i a ha
                  have pa := part_re ha hcs w
                  have := keyOk_sound em d f.type a h1 pa.1 D w (by omega)
                  simp only [pa.2, Result.andThen_ok, this, Sem.run_pure]
                  exact ih hl.2 w
                · cases h1
        have := key fs.toList h w
        simp at this ⊢
        rw [this]; rfl
      · cases h
    · rename_i kd h1 h2 h3 hu
      simp only [Instr.checkKey, Sem.run_bind, run_underlying hu, Result.andThen_ok]
      cases kd <;> first | rfl | (simp_all; done) | (cases v <;> first | rfl | (rename_i a _ _ _; cases a <;> rfl) | (rename_i a; cases a <;> rfl))
    · cases h

def sameV : Nat → V → V → Bool
  | _, .bool a, .bool b => a == b
  | _, .int j a, .int k b => decide (j = k) && a == b
  | _, .str a, .str b => eqB a.data.toList b.data.toList
  | n + 1, .agg a, .agg b => Nat.beq a.length b.length && (a.zip b).all fun (x, y) => sameV n x y
  | _, _, _ => false
theorem sameV_sound {σ : Ren} : ∀ (d : Nat) (x y : V), sameV d x y = true → ∀ D, d ≤ D → Instr.sameBits D (x.re σ) (y.re σ) = true := by
  intro d
  induction d with
  | zero =>
    intro x y h D hD
    unfold sameV at h
    split at h <;> (try cases h) <;> simp_all [V.re, Instr.sameBits, beq_toListBytes, eqB_bytes]
    all_goals (cases D <;> simp_all [Instr.sameBits, beq_toListBytes, eqB_bytes])
  | succ d ih =>
    intro x y h D hD
    unfold sameV at h
    split at h
    · simp_all [V.re, Instr.sameBits]
    · simp_all [V.re, Instr.sameBits]
    · simp_all [V.re, Instr.sameBits, beq_toListBytes, eqB_bytes]
    · rename_i n a b hn
      obtain ⟨D, rfl⟩ : ∃ D', D = D' + 1 := ⟨D - 1, by omega⟩
      simp only [Bool.and_eq_true] at h
      have hl := Nat.eq_of_beq_eq_true h.1
      have e : d = n := by omega
      subst e
      simp only [V.re, Instr.sameBits, V.reL_eq, Bool.and_eq_true]
      refine ⟨by simp [hl], ?_⟩
      rw [List.all_eq_true]
      rintro ⟨p, q⟩ hpq
      simp only [List.zip_map] at hpq
      obtain ⟨⟨x, y⟩, hxy, hpq⟩ := List.mem_map.1 hpq
      simp only [Prod.map_apply, Prod.mk.injEq] at hpq
      obtain ⟨rfl, rfl⟩ := hpq
      exact ih x y (List.all_eq_true.1 h.2 (x, y) hxy) D (by omega)
    · cases h

/-! ### the operations -/
theorem map_rel {H : HF} {σ : Ren} {w : World} (hi : Inv P H σ w) {b : Nat} {es : Ents} {c : Nat} (hg : H b = some (.map es c)) :
    ∃ l, σ b = some l ∧ w.heap[l.blk]? = some (.map (es.map (reE σ)).toArray c) ∧ ∀ e ∈ es, onE σ e := by
  obtain ⟨l, hl, h1, h2⟩ := hi.rel b _ hg rfl
  exact ⟨l, hl, h1, h2⟩
theorem run_getMap {w : World} {r : Nat} {es : Array MapEntry} {c : Nat} (h : w.heap[r]? = some (.map es c)) : (getObj r).run P w = .ok (.map es c) w := by
  simp [getObj, Sem.run, h]
theorem run_setMap {w : World} {r : Nat} {es : Array MapEntry} {c : Nat} (h : w.heap[r]? = some (.map es c)) (o : Obj) : (setObj r o).run P w = .ok () (w.putObj r o) := by
  simp [setObj, Sem.run, h, World.putObj]

theorem ok_makeMap {t : TypeId} (ho : o.op = .makeMap t none) : PrimOk P tm o h ⟨.map (some h.n), h.push (.map [] 0), [], []⟩ :=
  PrimOk.make rfl fun H σ w ρ he hr hi hn => by
    refine ⟨w, .map #[] 0, 0, rfl, rfl, rfl, rfl, ⟨by simp, fun e he => by cases he⟩, ?_, ?_⟩
    · exact ⟨_, Ren.upd_same _ _ _⟩
    · simp only [execOp, ho, Instr.makeMap, Option.map_none, V.re, Option.map_some]
      rw [Ren.b_eq (Ren.upd_same σ h.n _)]
      simp [run_newObj_alloc]

def lookV (P : Program) (t : TypeId) (h : Heap) (x k : V) (ok : Bool) : Option (V × List Nat) := match P.underlying t with
  | some (.map kt et) => match P.underlying kt, keyOk P 10 kt k, zeroV P et with
    | some _, true, some z => match x with
      | .map none => some (if ok then .tuple [z, .bool false] else z, [])
      | .map (some b) => match h.get b with
        | some (.map es _) => match findV P kt k es 0 with
          | some (some (_, v)) => some (if ok then .tuple [v, .bool true] else v, [b])
          | some none => some (if ok then .tuple [z, .bool false] else z, [b])
          | none => none
        | _ => none
      | _ => none
    | _, _, _ => none
  | _ => none
theorem lookV_lt {t : TypeId} {x k v : V} {ok : Bool} {rs : List Nat} (hv : lookV P t h x k ok = some (v, rs)) : ∀ b ∈ rs, b < h.n := by
  unfold lookV at hv
  (repeat' (split at hv)) <;> cases hv <;> (try simp) <;> exact Heap.get_lt (by assumption)
theorem findV_mem {kt : TypeId} {k : V} : ∀ {es : Ents} {i j : Nat} {v : V}, findV P kt k es i = some (some (j, v)) → i ≤ j ∧ ∃ e, es[j - i]? = some e ∧ e.2.1 = v ∧ eqD P 10 kt k e.1 = some true
  | [], i, j, v, h => by cases h
  | e :: es, i, j, v, h => by
    unfold findV at h
    split at h
    · rename_i hq; cases h; exact ⟨Nat.le_refl _, e, by simp, rfl, hq⟩
    · obtain ⟨h1, e', h2, h3, h4⟩ := findV_mem h
      refine ⟨by omega, e', ?_, h3, h4⟩
      rw [show j - i = (j - (i + 1)) + 1 by omega]; simpa using h2
    · cases h
theorem ok_lookup {t : TypeId} {x y : Operand} {vx k v : V} {ok : Bool} {rs : List Nat} (ho : o.op = .lookup t x y ok) (hx : evV tm x = some vx) (hy : evV tm y = some k) (hv : lookV P t h vx k ok = some (v, rs)) : PrimOk P tm o h ⟨v, h, rs, []⟩ := by
  refine PrimOk.read (fun H σ w ρ he hr hi => ?_) (lookV_lt hv)
  have h1 := he x (by simp [ho, Op.operands]) _ hx
  have h2 := he y (by simp [ho, Op.operands]) _ hy
  unfold lookV at hv
  split at hv
  · rename_i kt et hu
    split at hv
    · rename_i kd z hku hko hz
      have hz' := run_zeroV hz w σ
      split at hv
      · cases hv
        have hck := fun em => keyOk_sound em 10 kt k hko h2.1 10000 w (by omega)
        cases ok
        · refine ⟨hz'.1, ?_⟩
          simp [execOp, ho, h1.2, h2.2, V.re, Instr.lookup, run_underlying hu, hck, Instr.findKey, run_underlying hku, Instr.findNow, hz'.2]
        · refine ⟨⟨hz'.1, trivial, trivial⟩, ?_⟩
          simp [execOp, ho, h1.2, h2.2, V.re, V.reL, Instr.lookup, run_underlying hu, hck, Instr.findKey, run_underlying hku, Instr.findNow, hz'.2]
      · rename_i b
        split at hv
        · rename_i es c hg
          have key : ∀ r, findV P kt k es 0 = some r → b ∈ rs → (∀ e ∈ es, onE σ e) ∧ (execOp ρ o).run P w = ((match reF σ r with
              | some (_, v) => (pure (v, true) : Sem (Value × Bool))
              | none => (do pure (← zeroValue et, false))) >>= fun (p : Value × Bool) => (pure (.value (if ok then .tuple #[p.1, .bool p.2] else p.1)) : Sem Next)).run P w := by
            intro r hf hbr
            obtain ⟨l, hl, hw, hon⟩ := map_rel hi (show H b = some (.map es c) by rw [hr b hbr, hg])
            have hck := fun em => keyOk_sound em 10 kt k hko h2.1 10000 w (by omega)
            have hfk := findKey_sound h2.1 hf hon hku w
            refine ⟨hon, ?_⟩
            simp only [execOp, ho, h1.2, h2.2, V.re, Option.map_some, Instr.lookup, Sem.run_bind, run_underlying hu, Result.andThen_ok, Ren.b_eq hl, run_getMap hw, Sem.run_pure, hck, hfk]
            cases r with
            | none => simp [reF, hz'.2]
            | some p => simp [reF]
          split at hv
          · rename_i i v' hf
            cases hv
            obtain ⟨hon, hrun⟩ := key _ hf (by simp)
            obtain ⟨_, e, he1, he2, _⟩ := findV_mem hf
            have hve : v'.on σ := by rw [← he2]; exact (hon e (List.mem_of_getElem? he1)).2
            cases ok
            · exact ⟨hve, by rw [hrun]; simp [reF]⟩
            · exact ⟨⟨hve, trivial, trivial⟩, by rw [hrun]; simp [reF, V.re, V.reL]⟩
          · rename_i hf
            cases hv
            obtain ⟨hon, hrun⟩ := key _ hf (by simp)
            cases ok
            · exact ⟨hz'.1, by rw [hrun]; simp [reF, hz'.2]⟩
            · exact ⟨⟨hz'.1, trivial, trivial⟩, by rw [hrun]; simp [reF, hz'.2, V.re, V.reL]⟩
          · cases hv
        · cases hv
      · cases hv
    · cases hv
  · cases hv

def updV (P : Program) (t : TypeId) (h : Heap) (x k v : V) : Option (Heap × List Nat) := match P.underlying t with
  | some (.map kt _) => match P.underlying kt, keyOk P 10 kt k with
    | some _, true => match x with
      | .map (some b) => match h.get b with
        | some (.map es c) => match findV P kt k es 0 with
          | some (some (i, _)) => match es[i]? with
            | some e => match sameV 10 e.1 k with
              | true => some (h.set b (.map (es.set i (k, v, e.2.2)) c), [b])
              | false => none
            | none => none
          | some none => some (h.set b (.map (es ++ [(k, v, c)]) (c + 1)), [b])
          | none => none
        | _ => none
      | _ => none
    | _, _ => none
  | _ => none
theorem ok_update {t : TypeId} {x y z : Operand} {vx k v : V} {h' : Heap} {ws : List Nat} (ho : o.op = .mapUpdate t x y z ∨ o.op = .insert t x y z) (hx : evV tm x = some vx) (hy : evV tm y = some k) (hz : evV tm z = some v) (hv : updV P t h vx k v = some (h', ws)) : PrimOk P tm o h ⟨undefV, h', [], ws⟩ := by
  unfold updV at hv
  split at hv
  · rename_i kt et hu
    split at hv
    · rename_i kd hku hko
      split at hv
      · rename_i b
        split at hv
        · rename_i es c hg
          have main : ∀ (es' : Ents) (c' : Nat), (∀ (σ : Ren) (w : World), (∀ e ∈ es, onE σ e) → k.on σ → v.on σ → (∀ e ∈ es', onE σ e) ∧ ∀ bl, w.heap[bl]? = some (.map (es.map (reE σ)).toArray c) →
              (Instr.mapUpdate t (.map (some bl)) (k.re σ) (v.re σ)).run P w = .ok () (w.putObj bl (.map (es'.map (reE σ)).toArray c'))) → PrimOk P tm o h ⟨undefV, h.set b (.map es' c'), [], [b]⟩ := by
            intro es' c' hm
            refine PrimOk.write hg rfl rfl (fun H σ w ρ he hr hi l hl hB => ?_)
            have h1 := he x (by rcases ho with ho | ho <;> simp [ho, Op.operands]) _ hx
            have h2 := he y (by rcases ho with ho | ho <;> simp [ho, Op.operands]) _ hy
            have h3 := he z (by rcases ho with ho | ho <;> simp [ho, Op.operands]) _ hz
            obtain ⟨hw, hon⟩ := hB
            obtain ⟨hon', hrun⟩ := hm σ w hon h2.1 h3.1
            have hlt : l.blk < w.heap.size := (Array.getElem?_eq_some_iff.1 hw).1
            refine ⟨w.putObj l.blk (.map (es'.map (reE σ)).toArray c'), .skip, undef, by simp [World.putObj], fun k hk => World.putObj_heap_other hk, rfl, rfl, rfl, ⟨by rw [World.putObj_heap_same hlt], hon'⟩, .inr ⟨rfl, rfl⟩, ⟨undefV_on _, (undefV_re σ).symm⟩, ?_⟩
            have := hrun l.blk hw
            rcases ho with ho | ho
            all_goals
              simp only [execOp, ho, h1.2, h2.2, h3.2, V.re, Option.map_some, Ren.b_eq hl, Sem.run_bind, this, Result.andThen_ok, Sem.run_pure]
          split at hv
          · rename_i i v0 hf
            split at hv
            · rename_i e hei
              split at hv
              · rename_i hs
                cases hv
                refine main _ _ fun σ w hon hk hvv => ⟨fun e' he' => ?_, fun bl hw => ?_⟩
                · rcases List.mem_or_eq_of_mem_set he' with h' | h'
                  · exact hon e' h'
                  · subst h'; exact ⟨hk, hvv⟩
                · have hck := keyOk_sound false 10 kt k hko hk 10000 w (by omega)
                  have hfk := findKey_sound hk hf hon hku w
                  have hsb : Instr.sameBits 10000 (e.1.re σ) (k.re σ) = true := sameV_sound 10 _ _ hs 10000 (by omega)
                  have hi1 : ((es.map (reE σ)).toArray)[i]? = some (reE σ e) := by simp [hei]
                  simp only [Instr.mapUpdate, Sem.run_bind, run_underlying hu, Result.andThen_ok, run_getMap hw, hck, hfk, reF, hi1, Option.map_some, Option.getD_some]
                  simp only [Instr.keyThatStays]
                  rw [show (reE σ e).key = e.1.re σ from rfl, hsb]
                  simp only [if_true, Sem.run_pure, Result.andThen_ok]
                  rw [run_setMap hw]
                  congr 3
                  apply Array.ext'
                  simp only [Array.toList_modify, List.map_set]
                  apply List.ext_getElem?
                  intro j
                  rw [List.getElem?_modify, List.getElem?_set]
                  by_cases hj : i = j
                  · subst hj
                    have hil : i < es.length := (List.getElem?_eq_some_iff.1 hei).1
                    have he' : es[i] = e := by rw [List.getElem?_eq_getElem hil] at hei; exact Option.some.inj hei
                    simp [hei, hil, reE, he']
                  · simp [hj]
              · cases hv
            · cases hv
          · rename_i hf
            cases hv
            refine main _ _ fun σ w hon hk hvv => ⟨fun e' he' => ?_, fun bl hw => ?_⟩
            · rcases List.mem_append.1 he' with h' | h'
              · exact hon e' h'
              · simp at h'; subst h'; exact ⟨hk, hvv⟩
            · have hck := keyOk_sound false 10 kt k hko hk 10000 w (by omega)
              have hfk := findKey_sound hk hf hon hku w
              simp only [Instr.mapUpdate, Sem.run_bind, run_underlying hu, Result.andThen_ok, run_getMap hw, hck, hfk, reF]
              rw [run_setMap hw]
              simp [reE]
          · cases hv
        · cases hv
      · cases hv
    · cases hv
  · cases hv

theorem map_eraseIdx {α β : Type} (f : α → β) : ∀ (l : List α) (i : Nat), (l.map f).eraseIdx i = (l.eraseIdx i).map f
  | [], i => by simp
  | a :: l, 0 => by simp
  | a :: l, i + 1 => by simp [map_eraseIdx f l i]
def delV (P : Program) (t : TypeId) (h : Heap) (x k : V) : Option Pr := match P.underlying t with
  | some (.map kt _) => match P.underlying kt, keyOk P 10 kt k with
    | some _, true => match x with
      | .map none => some ⟨undefV, h, [], []⟩
      | .map (some b) => match h.get b with
        | some (.map es c) => match findV P kt k es 0 with
          | some (some (i, _)) => some ⟨undefV, h.set b (.map (es.eraseIdx i) c), [], [b]⟩
          | some none => some ⟨undefV, h.set b (.map es c), [], [b]⟩
          | none => none
        | _ => none
      | _ => none
    | _, _ => none
  | _ => none
theorem ok_delete {args : Array Operand} {ts : Array TypeId} {t : TypeId} {x k : V} {pr : Pr} (ho : o.op = .call { callee := .builtin .delete, args, argTypes := ts }) (ht : ts[0]? = some t) (hx : evVs tm args.toList = some [x, k]) (hv : delV P t h x k = some pr) : PrimOk P tm o h pr := by
  unfold delV at hv
  split at hv
  · rename_i kt et hu
    split at hv
    · rename_i kd hku hko
      split at hv
      · cases hv
        refine PrimOk.pure fun σ w ρ he => ⟨undefV_on _, ?_⟩
        have ha := args_re ho he hx
        have hck := keyOk_sound true 10 kt k hko ha.1.2.1 10000 w (by omega)
        rw [call_builtin ho, ha.2]
        simp [builtin, Builtin.delete_, ht, V.reL, V.re, run_underlying hu, hck, undefV]
      · rename_i b
        split at hv
        · rename_i es c hg
          have main : ∀ (es' : Ents), (∀ (σ : Ren) (w : World), (∀ e ∈ es, onE σ e) → k.on σ → (∀ e ∈ es', onE σ e) ∧ ∀ bl, w.heap[bl]? = some (.map (es.map (reE σ)).toArray c) →
              (Builtin.delete_ ts o.type #[.map (some bl), k.re σ]).run P w = .ok undef (w.putObj bl (.map (es'.map (reE σ)).toArray c))) → PrimOk P tm o h ⟨undefV, h.set b (.map es' c), [], [b]⟩ := by
            intro es' hm
            refine PrimOk.write hg rfl rfl (fun H σ w ρ he hr hi l hl hB => ?_)
            have ha := args_re ho he hx
            obtain ⟨hw, hon⟩ := hB
            obtain ⟨hon', hrun⟩ := hm σ w hon ha.1.2.1
            have hlt : l.blk < w.heap.size := (Array.getElem?_eq_some_iff.1 hw).1
            refine ⟨w.putObj l.blk (.map (es'.map (reE σ)).toArray c), .value undef, undef, by simp [World.putObj], fun k hk => World.putObj_heap_other hk, rfl, rfl, rfl, ⟨by rw [World.putObj_heap_same hlt], hon'⟩, .inl rfl, ⟨undefV_on _, (undefV_re σ).symm⟩, ?_⟩
            rw [call_builtin ho, ha.2]
            have := hrun l.blk hw
            simp only [V.reL, V.re, Option.map_some, Ren.b_eq hl]
            simp only [builtin, Sem.run_bind, this, Result.andThen_ok, Sem.run_pure]
          split at hv
          · rename_i i v0 hf
            cases hv
            refine main _ fun σ w hon hk => ⟨fun e' he' => hon e' (List.mem_of_mem_eraseIdx he'), fun bl hw => ?_⟩
            have hck := fun em => keyOk_sound em 10 kt k hko hk 10000 w (by omega)
            have hfk := findKey_sound hk hf hon hku w
            simp only [Builtin.delete_, ht]
            simp only [List.size_toArray, List.getElem?_toArray, List.getElem?_cons_zero, List.getElem?_cons_succ, Sem.run_bind, run_underlying hu, Result.andThen_ok, run_getMap hw, hck, hfk, reF]
            rw [run_setMap hw]
            simp only [Result.andThen_ok, Sem.run_pure, undef]
            congr 3
            apply Array.ext'
            simp only [Array.eraseIdxIfInBounds]
            split
            · simp [map_eraseIdx]
            · rename_i hlt; rw [List.eraseIdx_of_length_le (by simpa using hlt)]
          · rename_i hf
            cases hv
            refine main _ fun σ w hon hk => ⟨hon, fun bl hw => ?_⟩
            have hck := fun em => keyOk_sound em 10 kt k hko hk 10000 w (by omega)
            have hfk := findKey_sound hk hf hon hku w
            simp only [Builtin.delete_, ht]
            simp only [List.size_toArray, List.getElem?_toArray, List.getElem?_cons_zero, List.getElem?_cons_succ, Sem.run_bind, run_underlying hu, Result.andThen_ok, run_getMap hw, hck, hfk, reF]
            rw [run_setMap hw]
            simp only [Result.andThen_ok, Sem.run_pure, undef]
          · cases hv
        · cases hv
      · cases hv
    · cases hv
  · cases hv

def rangeV (P : Program) (t : TypeId) (h : Heap) (x : V) : Option (O × List Nat) := match P.underlying t, x with
  | some (.map _ _), .map none => some (.iter none 0 [] 0, [])
  | some (.map _ _), .map (some b) => match h.get b with
    | some (.map _ c) => some (.iter (some b) c [] c, [b])
    | _ => none
  | _, _ => none
theorem ok_range {t : TypeId} {x : Operand} {vx : V} {it : O} {rs : List Nat} (ho : o.op = .range t x) (hx : evV tm x = some vx) (hv : rangeV P t h vx = some (it, rs)) : PrimOk P tm o h ⟨.ptr (some (h.n, 0)), h.push it, rs, []⟩ := by
  unfold rangeV at hv
  split at hv
  · rename_i kt et hu
    cases hv
    refine PrimOk.make rfl (fun H σ w ρ he hr hi hn => ?_)
    have h1 := he x (by simp [ho, Op.operands]) _ hx
    refine ⟨w, .mapIter none 0 #[] 0, 0, rfl, rfl, rfl, rfl, ⟨rfl, (fun r hr => (by cases hr)), by simp⟩, on_new _ _ _, ?_⟩
    simp only [execOp, ho, h1.2, V.re, Option.map_none, Option.map_some, Instr.range, Sem.run_bind, run_underlying hu, Result.andThen_ok, Sem.run_pure, reA_new]
    simp [run_newObj_alloc]
  · rename_i kt et b hu
    split at hv
    · rename_i es c hg
      cases hv
      refine PrimOk.make rfl (fun H σ w ρ he hr hi hn => ?_) (fun b' hb' => by simp at hb'; subst hb'; exact Heap.get_lt hg)
      have h1 := he x (by simp [ho, Op.operands]) _ hx
      obtain ⟨l, hl, hw, hon⟩ := map_rel hi (show H b = some (.map es c) by rw [hr b (by simp), hg])
      have hle := Ren.le_upd hn ⟨w.heap.size, 0, 0⟩
      refine ⟨w, .mapIter (some l.blk) c #[] c, 0, rfl, rfl, rfl, rfl, ⟨rfl, fun r hr => ?_, ?_⟩, on_new _ _ _, ?_⟩
      · cases hr; exact ⟨l, hle _ _ hl⟩
      · simp [Ren.b_eq (hle _ _ hl)]
      · simp only [execOp, ho, h1.2, V.re, Option.map_some, Instr.range, Sem.run_bind, run_underlying hu, Result.andThen_ok, Ren.b_eq hl, run_getMap hw, Sem.run_pure, reA_new]
        simp [run_newObj_alloc]
    · cases hv
  · cases hv

/-! ### an iterator's step -/
theorem iter_rel {H : HF} {σ : Ren} {w : World} (hi : Inv P H σ w) {b : Nat} {m : Option Nat} {since : Nat} {seen : List Nat} {stepped : Nat} (hg : H b = some (.iter m since seen stepped)) :
    ∃ l, σ b = some l ∧ l.sh = 0 ∧ (∀ r, m = some r → σ.is r) ∧ w.heap[l.blk]? = some (.mapIter (m.map σ.b) since seen.toArray stepped) := by
  obtain ⟨l, hl, h0, h1, h2⟩ := hi.rel b _ hg rfl
  exact ⟨l, hl, h0, h1, h2⟩
def leftE (seen : List Nat) (es : Ents) : Ents := es.filter fun e => !seen.contains e.2.2
def oldE (since : Nat) (l : Ents) : Ents := l.filter fun e => decide (e.2.2 < since)
def newE (since : Nat) (l : Ents) : Ents := l.filter fun e => decide (e.2.2 ≥ since)
def candE (since : Nat) (l : Ents) : List (Option (V × V × Nat)) := (if (oldE since l).isEmpty then [none] else []) ++ (oldE since l ++ newE since l).map some
theorem candE_pos (since : Nat) (l : Ents) : 0 < (candE since l).length := by
  unfold candE
  by_cases h : (oldE since l).isEmpty
  · simp [h]
  · have : 0 < (oldE since l).length := by
      rcases Nat.eq_zero_or_pos (oldE since l).length with h0 | h0
      · exact absurd (by simpa using List.length_eq_zero_iff.1 h0) h
      · exact h0
    simp; omega
theorem run_next {w : World} {r m : Nat} {t : TypeId} {σ : Ren} {es : Ents} {clock since stepped : Nat} {seen : List Nat} (hw : w.heap[r]? = some (.mapIter (some m) since seen.toArray stepped)) (hm : w.heap[m]? = some (.map (es.map (reE σ)).toArray clock))
    (hok : seen = [] ∨ es = [] ∨ ∃ e ∈ es, e.2.2 < stepped) : ∃ (n d : Nat) (c : Option (V × V × Nat)), (candE since (leftE seen es))[n]? = some c ∧ (Instr.next (.pointer (some ⟨r, 0, none⟩)) false t).run P w =
      match c with
      | some e => .ok (.tuple #[.bool true, e.1.re σ, e.2.1.re σ]) ({ w with drawn := d }.putObj r (.mapIter (some m) since (seen ++ [e.2.2]).toArray clock))
      | none => .ok (.tuple #[.bool false]) { w with drawn := d } := by
  have hleft : ((es.map (reE σ)).toArray.filter fun e => !seen.toArray.contains e.born) = ((leftE seen es).map (reE σ)).toArray := by
    apply Array.ext'
    simp [leftE, List.filter_map, Function.comp_def, reE]
    rfl
  have hcand : (if (((leftE seen es).map (reE σ)).toArray.filter fun e => decide (e.born < since)).isEmpty then #[none] else #[]) ++ ((((leftE seen es).map (reE σ)).toArray.filter fun e => decide (e.born < since)) ++ (((leftE seen es).map (reE σ)).toArray.filter fun e => decide (e.born ≥ since))).map some =
      ((candE since (leftE seen es)).map (Option.map (reE σ))).toArray := by
    have h1 : (((leftE seen es).map (reE σ)).toArray.filter fun e => decide (e.born < since)) = ((oldE since (leftE seen es)).map (reE σ)).toArray := by
      apply Array.ext'; simp [oldE, List.filter_map, Function.comp_def, reE]; rfl
    have h2 : (((leftE seen es).map (reE σ)).toArray.filter fun e => decide (e.born ≥ since)) = ((newE since (leftE seen es)).map (reE σ)).toArray := by
      apply Array.ext'; simp [newE, List.filter_map, Function.comp_def, reE]; rfl
    rw [h1, h2]
    apply Array.ext'
    unfold candE
    cases oldE since (leftE seen es) with
    | nil => simp [Function.comp_def]
    | cons a l => simp [Function.comp_def]
  have hguard : (!seen.toArray.isEmpty && !(es.map (reE σ)).toArray.isEmpty && (es.map (reE σ)).toArray.all fun e => decide (e.born ≥ stepped)) = false := by
    rcases hok with rfl | rfl | ⟨e, he, hlt⟩
    · simp
    · simp
    · simp only [Bool.and_eq_false_iff]
      right
      rw [← Bool.not_eq_true]
      intro hall
      rw [Array.all_eq_true'] at hall
      have := hall (reE σ e) (by simpa using ⟨_, _, _, he, rfl⟩)
      simp [reE] at this
      omega
  have hpos := candE_pos since (leftE seen es)
  have pick : ∀ (n : Nat) (d : Nat), n < (candE since (leftE seen es)).length → ∃ c, (candE since (leftE seen es))[n]? = some c ∧
      ((match ((candE since (leftE seen es)).map (Option.map (reE σ))).toArray[n]? with
        | some (some e) => (do
          setObj r (.mapIter (some m) since (seen.toArray.push e.born) clock)
          pure (.tuple #[.bool true, e.key, e.val]) : Sem Value)
        | some none => pure (.tuple #[.bool false])
        | none => stuck "Next: no such candidate").run P { w with drawn := d } = match c with
      | some e => .ok (.tuple #[.bool true, e.1.re σ, e.2.1.re σ]) ({ w with drawn := d }.putObj r (.mapIter (some m) since (seen ++ [e.2.2]).toArray clock))
      | none => .ok (.tuple #[.bool false]) { w with drawn := d }) := by
    intro n d hn
    refine ⟨(candE since (leftE seen es))[n], List.getElem?_eq_getElem hn, ?_⟩
    have : ((candE since (leftE seen es)).map (Option.map (reE σ))).toArray[n]? = some (((candE since (leftE seen es))[n]).map (reE σ)) := by simp [hn]
    rw [this]
    cases (candE since (leftE seen es))[n] with
    | none => rfl
    | some e =>
      have hw' : ({ w with drawn := d } : World).heap[r]? = some (.mapIter (some m) since seen.toArray stepped) := hw
      simp [Option.map_some, setObj, Sem.run, hw', World.putObj, reE]
  have hsz : ((candE since (leftE seen es)).map (Option.map (reE σ))).toArray.size = (candE since (leftE seen es)).length := by simp
  simp only [Instr.next, Sem.run_bind, getObj, Sem.run, hw, hm, Result.andThen_ok, hguard, Bool.false_eq_true, if_false, hleft, hcand, choose, Question.forced, hsz]
  by_cases h1 : (candE since (leftE seen es)).length ≤ 1
  · obtain ⟨c, hc, hr⟩ := pick 0 w.drawn hpos
    refine ⟨0, w.drawn, c, hc, ?_⟩
    simp only [h1, decide_true, if_true, Sem.run_pure, Result.andThen_ok]
    exact hr
  · obtain ⟨c, hc, hr⟩ := pick ((Question.mapNext (candE since (leftE seen es)).length).cut (w.tape w.drawn (.mapNext (candE since (leftE seen es)).length))) (w.drawn + 1) (Nat.mod_lt _ hpos)
    refine ⟨_, w.drawn + 1, c, hc, ?_⟩
    simp only [h1, decide_false, Bool.false_eq_true, if_false, Sem.run_pure, Result.andThen_ok]
    exact hr

def entryV (h : Heap) (b : Nat) : Option (V × List Nat) := match h.get b with
  | some (.iter (some m) _ seen stepped) => match seen.getLast?, h.get m with
    | some s, some (.map es c) => match Nat.beq c stepped with
      | true => match es.find? (fun e => Nat.beq e.2.2 s) with
        | some e => some (.tuple [e.1, e.2.1], [b, m])
        | none => none
      | false => none
    | _, _ => none
  | _ => none
theorem nat_beq_eq (a b : Nat) : (a == b) = Nat.beq a b := by
  cases h : Nat.beq a b with
  | true => simp [Nat.eq_of_beq_eq_true h]
  | false => simp; intro e; subst e; simp at h
theorem ok_entry {x : Operand} {b : Nat} {v : V} {rs : List Nat} (ho : o.op = .entry x) (hx : evV tm x = some (.ptr (some (b, 0)))) (hv : entryV h b = some (v, rs)) : PrimOk P tm o h ⟨v, h, rs, []⟩ := by
  unfold entryV at hv
  split at hv
  · rename_i m since seen stepped hg
    split at hv
    · rename_i s es c hl hgm
      split at hv
      · rename_i hc
        split at hv
        · rename_i e he
          cases hv
          refine PrimOk.read (fun H σ w ρ hev hr hi => ?_) (fun b' hb' => by
            rcases List.mem_cons.1 hb' with rfl | hb'
            · exact Heap.get_lt hg
            · simp at hb'; subst hb'; exact Heap.get_lt hgm)
          have h1 := hev x (by simp [ho, Op.operands]) _ hx
          obtain ⟨l, hl1, hls, hon, hw⟩ := iter_rel hi (show H b = some (.iter (some m) since seen stepped) by rw [hr b (by simp), hg])
          obtain ⟨lm, hlm, hwm, honm⟩ := map_rel hi (show H m = some (.map es c) by rw [hr m (by simp), hgm])
          have hw' : w.heap[l.blk]? = some (.mapIter (some lm.blk) since seen.toArray stepped) := by rw [hw]; simp [Ren.b_eq hlm]
          have hc' : (c != stepped) = false := by have := Nat.eq_of_beq_eq_true hc; simp [this]
          have hf : (es.map (reE σ)).toArray.find? (fun e => e.born == s) = some (reE σ e) := by
            have he' : es.find? (fun e => e.2.2 == s) = some e := by simpa only [nat_beq_eq] using he
            simp only [List.find?_toArray, List.find?_map]
            have : (fun (e : MapEntry) => e.born == s) ∘ reE σ = fun e => e.2.2 == s := rfl
            rw [this, he']; rfl
          have hen := honm e (List.mem_of_find?_eq_some he)
          refine ⟨⟨hen.1, hen.2, trivial⟩, ?_⟩
          simp only [execOp, ho, h1.2, V.re, Option.map_some, reA, Ren.b_eq hl1, Ren.s_eq hl1, hls, Nat.add_zero, Instr.entry, Sem.run_bind]
          simp only [getObj, Sem.run, hw', hwm, Result.andThen_ok, hc']
          have hb : seen.toArray.back? = some s := by simp [hl]
          have hce := Nat.eq_of_beq_eq_true hc
          simp [hb, hf, reE, V.reL, Sem.run, hwm, hce]
        · cases hv
      · cases hv
    · cases hv
  · cases hv

/-! ### an iterator's step where there is no choice -/
def okNext (seen : List Nat) (es : Ents) (stepped : Nat) : Bool := seen.isEmpty || es.isEmpty || es.any fun e => Nat.blt e.2.2 stepped
theorem okNext_sound {seen : List Nat} {es : Ents} {stepped : Nat} (h : okNext seen es stepped = true) : seen = [] ∨ es = [] ∨ ∃ e ∈ es, e.2.2 < stepped := by
  unfold okNext at h
  simp only [Bool.or_eq_true, List.isEmpty_iff, List.any_eq_true] at h
  rcases h with (h | h) | ⟨e, he, hb⟩
  · exact .inl h
  · exact .inr (.inl h)
  · exact .inr (.inr ⟨e, he, Nat.blt_eq.mp hb⟩)
def nextV (h : Heap) (b : Nat) : Option Pr := match h.get b with
  | some (.iter none _ _ _) => some ⟨.tuple [.bool false], h, [b], []⟩
  | some (.iter (some m) since seen stepped) => match h.get m with
    | some (.map es clock) => match okNext seen es stepped with
      | true => match candE since (leftE seen es) with
        | [none] => some ⟨.tuple [.bool false], h, [b, m], []⟩
        | [some e] => some ⟨.tuple [.bool true, e.1, e.2.1], h.set b (.iter (some m) since (seen ++ [e.2.2]) clock), [m], [b]⟩
        | _ => none
      | false => none
    | _ => none
  | _ => none
theorem ok_next {x : Operand} {b : Nat} {pr : Pr} (ho : o.op = .next x false) (hx : evV tm x = some (.ptr (some (b, 0)))) (hv : nextV h b = some pr) : PrimOk P tm o h pr := by
  unfold nextV at hv
  split at hv
  · rename_i since seen stepped hg
    cases hv
    refine PrimOk.read (fun H σ w ρ hev hr hi => ?_) (fun b' hb' => by simp at hb'; subst hb'; exact Heap.get_lt hg)
    have h1 := hev x (by simp [ho, Op.operands]) _ hx
    obtain ⟨l, hl, hls, _, hw⟩ := iter_rel hi (show H b = some (.iter none since seen stepped) by rw [hr b (by simp), hg])
    refine ⟨⟨trivial, trivial⟩, ?_⟩
    simp only [execOp, ho, h1.2, V.re, Option.map_some, reA, Ren.b_eq hl, Ren.s_eq hl, hls, Nat.add_zero]
    simp [Instr.next, getObj, Sem.run, hw, V.reL, V.re]
  · rename_i m since seen stepped hg
    split at hv
    · rename_i es clock hgm
      split at hv
      · rename_i hok
        have hok := okNext_sound hok
        have run : ∀ (H : HF) (σ : Ren) (w : World) (ρ : Operand → Value) (l : Loc), EvOn σ tm o ρ → σ b = some l → BRel P σ l (.iter (some m) since seen stepped) w.heap[l.blk]? → H m = h.get m → Inv P H σ w → ∃ (lm : Loc) (n d : Nat) (c : Option (V × V × Nat)), l.sh = 0 ∧ σ m = some lm ∧ (∀ e ∈ es, onE σ e) ∧ (∀ r, some m = some r → σ.is r) ∧ w.heap[l.blk]? = some (.mapIter (some lm.blk) since seen.toArray stepped) ∧
            (candE since (leftE seen es))[n]? = some c ∧ (execOp ρ o).run P w = (match c with
              | some e => .ok (.value (.tuple #[.bool true, e.1.re σ, e.2.1.re σ])) (({ w with drawn := d } : World).putObj l.blk (.mapIter (some lm.blk) since (seen ++ [e.2.2]).toArray clock))
              | none => .ok (.value (.tuple #[.bool false])) { w with drawn := d }) := by
          intro H σ w ρ l hev hl hB hm hi
          have h1 := hev x (by simp [ho, Op.operands]) _ hx
          obtain ⟨hls, hon, hw⟩ := hB
          obtain ⟨lm, hlm, hwm, honm⟩ := map_rel hi (show H m = some (.map es clock) by rw [hm, hgm])
          have hw' : w.heap[l.blk]? = some (.mapIter (some lm.blk) since seen.toArray stepped) := by rw [hw]; simp [Ren.b_eq hlm]
          obtain ⟨n, d, c, hc, hrun⟩ := run_next (P := P) (t := o.type) hw' hwm hok
          refine ⟨lm, n, d, c, hls, hlm, honm, hon, hw', hc, ?_⟩
          have hrun' : (execOp ρ o).run P w = ((Instr.next (.pointer (some ⟨l.blk, 0, none⟩)) false o.type).run P w).andThen fun v w' => .ok (.value v) w' := by
            simp only [execOp, ho, h1.2, V.re, Option.map_some, reA, Ren.b_eq hl, Ren.s_eq hl, hls, Nat.add_zero, Sem.run_bind, Sem.run_pure]
          rw [hrun', hrun]
          cases c <;> rfl
        split at hv
        · rename_i hcand
          cases hv
          have hlt : ∀ b', b' ∈ [b, m] → b' < h.n := fun b' hb' => by
            rcases List.mem_cons.1 hb' with rfl | hb'
            · exact Heap.get_lt hg
            · simp at hb'; subst hb'; exact Heap.get_lt hgm
          refine ⟨Nat.le_refl _, fun _ _ _ => rfl, fun b' hb' => by simp only [List.not_mem_nil, or_false] at hb'; exact hlt b' hb', fun H σ w ρ hev hr _ hi => ?_⟩
          obtain ⟨l, hl, hB⟩ := hi.rel b _ (show H b = some (.iter (some m) since seen stepped) by rw [hr b (.inl (by simp)), hg]) rfl
          obtain ⟨lm, n, d, c, hls, hlm, honm, hon, hw, hc, hrun⟩ := run H σ w ρ l hev hl hB (hr m (.inl (by simp))) hi
          have hcn : c = none := by
            rw [hcand] at hc
            cases n with
            | zero => simpa using hc.symm
            | succ n => simp at hc
          subst hcn
          refine ⟨σ, _, H, _, _, hrun, .inl rfl, ⟨⟨trivial, trivial⟩, by simp [V.re, V.reL]⟩, (Goes.refl hi (fun b hb => by dsimp only at hb; omega)).heap rfl rfl rfl rfl, fun b' hb' => by simp at hb'; omega⟩
        · rename_i e hcand
          cases hv
          have hmem : e ∈ es := by
            have : some e ∈ candE since (leftE seen es) := by rw [hcand]; simp
            simp only [candE, List.mem_append, List.mem_map, Option.some.injEq, exists_eq_right] at this
            rcases this with h | h | h
            · split at h <;> simp at h
            · simp only [oldE, leftE, List.mem_filter] at h; exact h.1.1
            · simp only [newE, leftE, List.mem_filter] at h; exact h.1.1
          refine PrimOk.write hg rfl rfl (fun H σ w ρ hev hr hi l hl hB => ?_) (fun b' hb' => by simp at hb'; subst hb'; exact Heap.get_lt hgm)
          obtain ⟨lm, n, d, c, hls, hlm, honm, hon, hw, hc, hrun⟩ := run H σ w ρ l hev hl hB (hr m (by simp)) hi
          have hcn : c = some e := by
            rw [hcand] at hc
            cases n with
            | zero => simpa using hc.symm
            | succ n => simp at hc
          subst hcn
          have hlt1 : l.blk < ({ w with drawn := d } : World).heap.size := (Array.getElem?_eq_some_iff.1 hw).1
          refine ⟨_, _, _, ?_, ?_, ?_, ?_, ?_, ?_, .inl rfl, ⟨⟨trivial, (honm e hmem).1, (honm e hmem).2, trivial⟩, by simp [V.re, V.reL]⟩, hrun⟩
          · simp [World.putObj]
          · intro k hk; exact World.putObj_heap_other hk
          · rfl
          · rfl
          · rfl
          · rw [World.putObj_heap_same hlt1]; exact ⟨hls, hon, by simp [Ren.b_eq hlm]⟩
        · cases hv
      · cases hv
    · cases hv
  · cases hv

/-! ### a slice's array -/
def arrAtV (P : Program) (t : TypeId) (x : V) : Option V := match P.underlying t, x with
  | some (.array n _), .slice a len _ _ => match Nat.ble n len with
    | true => some (.ptr a)
    | false => none
  | _, _ => none
theorem ok_arrAt {t : TypeId} {x : Operand} {vx v : V} (ho : o.op = .sliceToArrayPointer t x) (hx : evV tm x = some vx) (hv : arrAtV P t vx = some v) : PrimOk P tm o h ⟨v, h, [], []⟩ :=
  PrimOk.pure fun σ w ρ he => by
    have h1 := he x (by simp [ho, Op.operands]) _ hx
    unfold arrAtV at hv
    split at hv
    · rename_i n e a len c ex hu
      split at hv
      · rename_i hb
        cases hv
        have hb' : ¬ len < n := by rw [Nat.ble_eq] at hb; omega
        cases a with
        | none => exact ⟨trivial, by simp [execOp, ho, h1.2, V.re, Instr.arrayAt, run_underlying hu, hb']⟩
        | some a => exact ⟨h1.1, by simp [execOp, ho, h1.2, V.re, Instr.arrayAt, run_underlying hu, hb']⟩
      · cases hv
    · cases hv
end Go.Vm
