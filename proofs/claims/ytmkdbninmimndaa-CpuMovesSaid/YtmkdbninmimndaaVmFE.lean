/- Two values held against each other, structs and arrays too. -/
import Derived.Test.YtmkdbninmimndaaVmF
import Derived.Laws.StructEq
import Derived.ChangeKeysEq
set_option linter.unusedVariables false
set_option linter.unusedSimpArgs false
namespace Go.Vm
variable {P : Program}

def eqFs (P : Program) (g : TypeId → V → V → Option Bool) (xs ys : List V) : List Field → Option Bool
  | [] => some true
  | f :: fs => match decide (f.name = "_") with
    | true => eqFs P g xs ys fs
    | false => match partV P f.type xs f.offset, partV P f.type ys f.offset with
      | some a, some b => match g f.type a b with
        | some true => eqFs P g xs ys fs
        | some false => some false
        | none => none
      | _, _ => none
def eqIs (P : Program) (g : V → V → Option Bool) (e : TypeId) (k : Nat) (xs ys : List V) : List Nat → Option Bool
  | [] => some true
  | i :: is => match partV P e xs (i * k), partV P e ys (i * k) with
    | some a, some b => match g a b with
      | some true => eqIs P g e k xs ys is
      | some false => some false
      | none => none
    | _, _ => none
def eqD (P : Program) : Nat → TypeId → V → V → Option Bool
  | 0, _, _, _ => none
  | d + 1, t, x, y => match x, y with
    | .agg xs, .agg ys => match P.underlying t with
      | some (.struct fs) => match P.stoodInHeld t with
        | true => none
        | false => eqFs P (eqD P d) xs ys fs.toList
      | some (.array n e) => match P.info? e with
        | some _ => eqIs P (eqD P d e) e (P.cellsOf e) xs ys (List.range n)
        | none => none
      | _ => none
    | .int k a, .int k' b => match P.underlying t with
      | some (.int _) => if k = k' then some (a == b) else none
      | _ => none
    | .str a, .str b => match P.underlying t with
      | some .string => some (eqB a.data.toList b.data.toList)
      | _ => none
    | x, y => eqSmall P t x y

theorem eqFs_sound {g : TypeId → V → V → Option Bool} {D : Nat} {σ : Ren} {xs ys : List V} (hx : V.onL σ xs) (hy : V.onL σ ys)
    (hg : ∀ t x y b, x.on σ → y.on σ → g t x y = some b → ∀ w, (Op.equalIn D t (x.re σ) (y.re σ)).run P w = .ok b w) : ∀ (fs : List Field) (b : Bool), eqFs P g xs ys fs = some b → ∀ w, (Op.eqFields D (V.reL σ xs).toArray (V.reL σ ys).toArray fs).run P w = .ok b w
  | [], b, h, w => by cases h; simp [Op.eqFields]
  | f :: fs, b, h, w => by
    unfold eqFs at h
    unfold Op.eqFields
    split at h
    · rename_i hn
      have hn : f.name = "_" := by simpa using hn
      rw [if_neg (by simp [hn])]
      exact eqFs_sound hx hy hg fs b h w
    · rename_i hn
      have hn : f.name ≠ "_" := by simpa using hn
      rw [if_pos hn]
      split at h
      · rename_i a c ha hc
        have pa := part_re ha ((V.onL_iff _ _).1 hx) w
        have pc := part_re hc ((V.onL_iff _ _).1 hy) w
        simp only [Sem.run_bind, pa.2, Result.andThen_ok, pc.2]
        split at h
        · rename_i hq
          rw [hg _ _ _ _ pa.1 pc.1 hq w]
          simp only [Result.andThen_ok, Bool.not_true, Bool.false_eq_true, if_false]
          exact eqFs_sound hx hy hg fs b h w
        · rename_i hq
          cases h
          rw [hg _ _ _ _ pa.1 pc.1 hq w]
          simp
        · cases h
      · cases h
theorem eqIs_sound {g : V → V → Option Bool} {D : Nat} {σ : Ren} {e : TypeId} {k : Nat} {xs ys : List V} (hx : V.onL σ xs) (hy : V.onL σ ys)
    (hg : ∀ x y b, x.on σ → y.on σ → g x y = some b → ∀ w, (Op.equalIn D e (x.re σ) (y.re σ)).run P w = .ok b w) : ∀ (is : List Nat) (b : Bool), eqIs P g e k xs ys is = some b → ∀ w, (Op.eqItems D e k (V.reL σ xs).toArray (V.reL σ ys).toArray is).run P w = .ok b w
  | [], b, h, w => by cases h; simp [Op.eqItems]
  | i :: is, b, h, w => by
    unfold eqIs at h
    unfold Op.eqItems
    split at h
    · rename_i a c ha hc
      have pa := part_re ha ((V.onL_iff _ _).1 hx) w
      have pc := part_re hc ((V.onL_iff _ _).1 hy) w
      simp only [Sem.run_bind, pa.2, Result.andThen_ok, pc.2]
      split at h
      · rename_i hq
        rw [hg _ _ _ pa.1 pc.1 hq w]
        simp only [Result.andThen_ok, Bool.not_true, Bool.false_eq_true, if_false]
        exact eqIs_sound hx hy hg is b h w
      · rename_i hq
        cases h
        rw [hg _ _ _ pa.1 pc.1 hq w]
        simp
      · cases h
    · cases h

theorem eqD_sound : ∀ (d : Nat) (t : TypeId) (x y : V) (b : Bool), eqD P d t x y = some b → ∀ (D : Nat) (σ : Ren) (w : World), d ≤ D → x.on σ → y.on σ → (Op.equalIn D t (x.re σ) (y.re σ)).run P w = .ok b w
  | 0, t, x, y, b, h => by simp [eqD] at h
  | d + 1, t, x, y, b, h => by
    intro D σ w hD hx hy
    obtain ⟨D, rfl⟩ : ∃ D', D = D' + 1 := ⟨D - 1, by omega⟩
    have hD' : d ≤ D := by omega
    unfold eqD at h
    split at h
    · rename_i xs ys
      have hx' : V.onL σ xs := hx
      have hy' : V.onL σ ys := hy
      simp only [V.re]
      split at h
      · rename_i fs hu
        split at h
        · cases h
        · rename_i hst
          have hf : P.fieldsOf t = fs := by simp [Program.fieldsOf, hu]
          rw [run_equalIn_struct w D t _ _ (by rw [hf]; exact hu) hst, hf]
          exact eqFs_sound hx' hy' (fun t x y b h1 h2 hq w => eqD_sound d t x y b hq D σ w hD' h1 h2) _ b h w
      · rename_i n e hu
        split at h
        · rename_i i hi
          rw [run_equalIn_array w D _ _ hu hi]
          exact eqIs_sound hx' hy' (fun x y b h1 h2 hq w => eqD_sound d e x y b hq D σ w hD' h1 h2) _ b h w
        · cases h
      · cases h
    · split at h
      · rename_i hu
        split at h
        · rename_i e; subst e; cases h; simp only [V.re]; exact run_equalIn_int w D t _ _ _ _ hu
        · cases h
      · cases h
    · split at h
      · rename_i hu; cases h; rw [eqB_bytes]; simp only [V.re]; exact run_equalIn_string w D t _ _ hu
      · cases h
    · exact eqSmall_in h w σ D

/-- Two structs, or arrays, held against each other. -/
def binA (P : Program) (op : BinOp) (t : TypeId) (x y : V) : Option V := match x, y with
  | .agg _, .agg _ => match P.eqGuardType P.depth t with
    | true => none
    | false => match op with
      | .eql => match eqD P 10 t x y with
        | some b => some (.bool b)
        | none => none
      | .neq => match eqD P 10 t x y with
        | some b => some (.bool (!b))
        | none => none
      | _ => none
  | _, _ => none
theorem binA_sound {op : BinOp} {t : TypeId} {x y : V} {v : V} (h : binA P op t x y = some v) (ox oy : Operand) (w : World) (σ : Ren) (hx : x.on σ) (hy : y.on σ) :
    ((do eqGuard op t ox oy (x.re σ) (y.re σ); binOp op t (x.re σ) (y.re σ)) : Sem Value).run P w = .ok (v.re σ) w ∧ v.on σ := by
  unfold binA at h
  split at h
  · rename_i xs ys
    split at h
    · cases h
    · rename_i hg
      have e1 : ∀ (w : World), (eqGuard op t ox oy ((V.agg xs).re σ) ((V.agg ys).re σ)).run P w = .ok () w := fun w => by
        simp only [V.re]; exact run_eqGuard_agg w op t ox oy _ _ hg
      simp only [Sem.run_bind, e1, Result.andThen_ok]
      split at h
      · split at h
        · rename_i b hb
          cases h
          refine ⟨?_, trivial⟩
          have := eqD_sound _ _ _ _ _ hb 10000 σ w (by omega) hx hy
          simp only [V.re] at this ⊢
          rw [run_eql_struct, this]; rfl
        · cases h
      · split at h
        · rename_i b hb
          cases h
          refine ⟨?_, trivial⟩
          have := eqD_sound _ _ _ _ _ hb 10000 σ w (by omega) hx hy
          simp only [V.re] at this ⊢
          rw [run_neq_struct, this]; rfl
        · cases h
      · cases h
  · cases h
variable {tm : Tm} {o : Oper} {h : Heap}
theorem ok_binA {op : BinOp} {t t' : TypeId} {x y : Operand} {vx vy v : V} (ho : o.op = .binOp op t x y t') (hx : evV tm x = some vx) (hy : evV tm y = some vy) (hv : binA P op t vx vy = some v) : PrimOk P tm o h ⟨v, h, [], []⟩ :=
  PrimOk.pure fun σ w ρ he => by
    have h1 := he x (by simp [ho, Op.operands]) _ hx
    have h2 := he y (by simp [ho, Op.operands]) _ hy
    have h3 := binA_sound hv x y w σ h1.1 h2.1
    refine ⟨h3.2, ?_⟩
    simp only [execOp, ho, h1.2, h2.2, Sem.run_bind] at h3 ⊢
    rw [h3.1]
    rfl
end Go.Vm
