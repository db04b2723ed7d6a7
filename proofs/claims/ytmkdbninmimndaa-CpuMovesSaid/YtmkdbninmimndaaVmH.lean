/- The virtual machine's builtins: len, cap, min, max, copy, append. -/
import Derived.Test.YtmkdbninmimndaaVmG
set_option linter.unusedVariables false
set_option linter.unusedSimpArgs false
namespace Go.Vm
variable {P : Program} {tm : Tm} {o : Oper} {h : Heap}

theorem call_builtin {b : Builtin} {args : Array Operand} {argTypes : Array TypeId} (ho : o.op = .call { callee := .builtin b, args, argTypes }) (ρ : Operand → Value) (w : World) :
    (execOp ρ o).run P w = (builtin b argTypes o.type (args.map fun | .const _ => true | _ => false) (args.map ρ)).run P w := by
  simp only [execOp, ho, resolve, invoke, Sem.run_bind, Sem.run_pure, Result.andThen_ok]
  rfl
theorem mem_args {b : Builtin} {args : Array Operand} {argTypes : Array TypeId} (ho : o.op = .call { callee := .builtin b, args, argTypes }) {x : Operand} (hx : x ∈ args.toList) : x ∈ o.op.operands := by
  rw [ho]; simp only [Op.operands, Call.operands]; simpa using hx
theorem args_re {b : Builtin} {args : Array Operand} {argTypes : Array TypeId} (ho : o.op = .call { callee := .builtin b, args, argTypes }) {σ : Ren} {ρ : Operand → Value} (he : EvOn σ tm o ρ) {vs : List V} (hv : evVs tm args.toList = some vs) :
    V.onL σ vs ∧ args.map ρ = (V.reL σ vs).toArray := by
  have h1 := evVs_rel (ρ := ρ) args.toList vs (fun x hx => he x (mem_args ho hx)) hv
  exact ⟨h1.1, by rw [← h1.2, ← Array.toList_map, Array.toArray_toList]⟩

/-! ### len, cap, min, max -/
def lenV (P : Program) (t : TypeId) (x : V) (h : Heap) : Option (Nat × List Nat) := match P.underlying t, x with
  | some .string, .str s => some (s.size, [])
  | some (.slice _), .slice _ n _ _ => some (n, [])
  | some (.slice _), .esl _ => some (0, [])
  | some (.array n _), _ => some (n, [])
  | some (.map _ _), .map none => some (0, [])
  | some (.map _ _), .map (some r) => match h.get r with
    | some (.map es _) => some (es.length, [r])
    | _ => none
  | some (.pointer arr), _ => match P.underlying arr with
    | some (.array n _) => some (n, [])
    | _ => none
  | _, _ => none
theorem lenV_lt {t : TypeId} {x : V} {n : Nat} {rs : List Nat} (hv : lenV P t x h = some (n, rs)) : ∀ b ∈ rs, b < h.n := by
  unfold lenV at hv
  (repeat' (split at hv)) <;> cases hv <;> (try simp)
  exact Heap.get_lt (by assumption)
theorem ok_len {args : Array Operand} {argTypes : Array TypeId} {t : TypeId} {x : V} {n : Nat} {rs : List Nat} (ho : o.op = .call { callee := .builtin .len, args, argTypes }) (ht : argTypes[0]? = some t) (hx : evVs tm args.toList = some [x])
    (hv : lenV P t x h = some (n, rs)) : PrimOk P tm o h ⟨.int .i64 n, h, rs, []⟩ := by
  refine PrimOk.read (fun H σ w ρ he hr hi => ?_) (lenV_lt hv)
  · skip
    refine ⟨trivial, ?_⟩
    have ha := args_re ho he hx
    rw [call_builtin ho, ha.2]
    have key : (Builtin.len_ argTypes o.type (V.reL σ [x]).toArray).run P w = .ok (.int .i64 n) w := by
      unfold lenV at hv
      split at hv
      · rename_i s hu; cases hv; simp [Builtin.len_, ht, V.reL, V.re, run_underlying hu, goInt]
      · rename_i e a n' c ex hu; cases hv
        cases a <;> simp [Builtin.len_, ht, V.reL, V.re, run_underlying hu, goInt]
      · rename_i e a hu; cases hv; simp [Builtin.len_, ht, V.reL, V.re, run_underlying hu, goInt]
      · rename_i n' e hu; cases hv; simp [Builtin.len_, ht, V.reL, run_underlying hu, goInt]
      · rename_i k e hu; cases hv; simp [Builtin.len_, ht, V.reL, V.re, run_underlying hu, goInt]
      · rename_i k e r hu
        split at hv
        · rename_i es clock hg
          cases hv
          obtain ⟨l, hl, h1, h3⟩ := hi.rel r _ (show H r = some (.map es clock) by rw [hr r (by simp), hg]) rfl
          simp [Builtin.len_, ht, V.reL, V.re, run_underlying hu, goInt, getObj, Sem.run, Ren.b_eq hl, h1]
        · cases hv
      · rename_i arr hu
        split at hv
        · rename_i n' e hu'; cases hv; simp [Builtin.len_, ht, V.reL, run_underlying hu, run_underlying hu', goInt]
        · cases hv
      · cases hv
    simp only [builtin, Sem.run_bind, key, Result.andThen_ok, Sem.run_pure, V.re]

def capV (P : Program) (t : TypeId) (x : V) : Option Nat := match P.underlying t, x with
  | some (.slice _), .slice _ _ c true => some c
  | some (.slice _), .slice none _ c _ => some c
  | some (.slice _), .esl _ => some 0
  | some (.array n _), _ => some n
  | _, _ => none
theorem ok_cap {args : Array Operand} {argTypes : Array TypeId} {t : TypeId} {x : V} {n : Nat} (ho : o.op = .call { callee := .builtin .cap, args, argTypes }) (ht : argTypes[0]? = some t) (hx : evVs tm args.toList = some [x])
    (hv : capV P t x = some n) : PrimOk P tm o h ⟨.int .i64 n, h, [], []⟩ :=
  PrimOk.pure fun σ w ρ he => by
    refine ⟨trivial, ?_⟩
    have ha := args_re ho he hx
    rw [call_builtin ho, ha.2]
    have key : (Builtin.cap_ argTypes o.type (V.reL σ [x]).toArray).run P w = .ok (.int .i64 n) w := by
      unfold capV at hv
      split at hv
      · rename_i e a n' c hu; cases hv
        cases a <;> simp [Builtin.cap_, ht, V.reL, V.re, run_underlying hu, goInt]
      · rename_i e n' c ex _ hu; cases hv
        simp [Builtin.cap_, ht, V.reL, V.re, run_underlying hu, goInt]
      · rename_i e a hu; cases hv; simp [Builtin.cap_, ht, V.reL, V.re, run_underlying hu, goInt]
      · rename_i n' e hu; cases hv; simp [Builtin.cap_, ht, V.reL, run_underlying hu, goInt]
      · cases hv
    simp only [builtin, Sem.run_bind, key, Result.andThen_ok, Sem.run_pure, V.re]

theorem ok_min {args : Array Operand} {argTypes : Array TypeId} {k k' : IntKind} {x y : Int} (ho : o.op = .call { callee := .builtin .min, args, argTypes }) (hx : evVs tm args.toList = some [.int k x, .int k' y]) :
    PrimOk P tm o h ⟨.int k (if y < x then y else x), h, [], []⟩ :=
  PrimOk.pure fun σ w ρ he => by
    refine ⟨trivial, ?_⟩
    have ha := args_re ho he hx
    rw [call_builtin ho, ha.2]
    simp [builtin, Builtin.min_, Builtin.min2, V.reL, V.re]
theorem ok_max {args : Array Operand} {argTypes : Array TypeId} {k k' : IntKind} {x y : Int} (ho : o.op = .call { callee := .builtin .max, args, argTypes }) (hx : evVs tm args.toList = some [.int k x, .int k' y]) :
    PrimOk P tm o h ⟨.int k (if y > x then y else x), h, [], []⟩ :=
  PrimOk.pure fun σ w ρ he => by
    refine ⟨trivial, ?_⟩
    have ha := args_re ho he hx
    rw [call_builtin ho, ha.2]
    simp [builtin, Builtin.max_, Builtin.max2, V.reL, V.re]

/-! ### what is copied -/
def lenOfV : V → Option Nat
  | .slice _ n _ _ => some n
  | .str s => some s.size
  | .esl _ => some 0
  | _ => none
theorem run_lenOfV {σ : Ren} {x : V} {n : Nat} (hv : lenOfV x = some n) (w : World) : (Builtin.lenOf (x.re σ)).run P w = .ok n w := by
  unfold lenOfV at hv
  split at hv
  · rename_i a n' c ex; cases hv
    cases a <;> simp [V.re, Builtin.lenOf]
  · cases hv; simp [V.re, Builtin.lenOf]
  · cases hv; simp [V.re, Builtin.lenOf]
  · cases hv
def firstV (h : Heap) (sz n : Nat) (x : V) : Option (List V × List Nat) := match x with
  | .slice none _ _ _ => some ([], [])
  | .slice (some (b, off)) _ _ _ => match h.get b with
    | some (.cells c _) => match Nat.ble (off + n * sz) c.size with
      | true => some (c.gets off (n * sz), [b])
      | false => none
    | _ => none
  | .str s => some ((s.extract 0 n).data.toList.map fun b => .int .u8 b.toNat, [])
  | .esl _ => match n with
    | 0 => some ([], [])
    | _ + 1 => none
  | _ => none
theorem run_firstV {H : HF} {σ : Ren} {w : World} {sz n : Nat} {x : V} {vs : List V} {rs : List Nat} (hv : firstV h sz n x = some (vs, rs)) (hr : ∀ b ∈ rs, H b = h.get b) (hi : Inv P H σ w) :
    V.onL σ vs ∧ (Builtin.firstCells sz n (x.re σ)).run P w = .ok (V.reL σ vs).toArray w := by
  unfold firstV at hv
  split at hv
  · cases hv; exact ⟨trivial, by simp [V.re, Builtin.firstCells, V.reL]⟩
  · rename_i b off len cap ex
    split at hv
    · rename_i c e hg
      split at hv
      · rename_i hle
        cases hv
        have h2 := loadCells_rel hi (show H b = some (.cells c e) by rw [hr b (by simp), hg]) off (n * sz) (Nat.le_of_ble_eq_true hle)
        exact ⟨h2.1, by simp [V.re, Builtin.firstCells, h2.2]⟩
      · cases hv
    · cases hv
  · rename_i s
    cases hv
    refine ⟨?_, ?_⟩
    · rw [V.onL_iff]; intro v hv; obtain ⟨b, _, rfl⟩ := List.mem_map.1 hv; trivial
    · simp only [V.re, Builtin.firstCells, Sem.run_pure, V.reL_eq, List.map_map]
      congr 1
      apply Array.ext'
      simp [Function.comp_def, V.re]
  · split at hv
    · cases hv; exact ⟨trivial, by simp [V.re, Builtin.firstCells, V.reL, loadCells, loadCellsFrom]⟩
    · cases hv
  · cases hv

theorem firstV_lt {sz n : Nat} {x : V} {vs : List V} {rs : List Nat} (hv : firstV h sz n x = some (vs, rs)) : ∀ b ∈ rs, b < h.n := by
  unfold firstV at hv
  (repeat' (split at hv)) <;> cases hv <;> (try simp)
  exact Heap.get_lt (by assumption)

def copyV (P : Program) (t : TypeId) (d s : V) (h : Heap) : Option Pr := match P.underlying t with
  | some (.slice e) => match szV P e with
    | some sz => match d with
      | .slice base dLen _ _ => match lenOfV s with
        | some n => match firstV h sz (Nat.min n dLen) s with
          | some (vs, rs) => match base with
            | none => some ⟨.int .i64 (Nat.min n dLen), h, rs, []⟩
            | some (b, off) => match h.get b with
              | some (.cells c ce) => match Nat.ble (off + vs.length) c.size with
                | true => match allOne vs with
                  | true => match c.ro with
                    | false => some ⟨.int .i64 (Nat.min n dLen), h.set b (.cells (c.putA off vs) ce), rs, [b]⟩
                    | true => none
                  | false => none
                | false => none
              | _ => none
          | none => none
        | none => none
      | _ => none
    | none => none
  | _ => none
theorem ok_copy {args : Array Operand} {argTypes : Array TypeId} {t : TypeId} {d s : V} {pr : Pr} (ho : o.op = .call { callee := .builtin .copy, args, argTypes }) (ht : argTypes[0]? = some t) (hx : evVs tm args.toList = some [d, s])
    (hv : copyV P t d s h = some pr) : PrimOk P tm o h pr := by
  unfold copyV at hv
  split at hv
  · rename_i e hu
    split at hv
    · rename_i sz hsz
      split at hv
      · rename_i base dLen dCap ex
        split at hv
        · rename_i n hn
          split at hv
          · rename_i vs rs hf
            split at hv
            · cases hv
              refine PrimOk.read (fun H σ w ρ he hr hi => ⟨trivial, ?_⟩) (firstV_lt hf)
              have ha := args_re ho he hx
              have h2 := run_firstV hf hr hi
              rw [call_builtin ho, ha.2]
              have key : (Builtin.copy_ argTypes o.type (V.reL σ [.slice none dLen dCap ex, s]).toArray).run P w = .ok (.int .i64 (Nat.min n dLen : Nat)) w := by
                simp [Builtin.copy_, ht, V.reL, V.re, run_underlying hu, run_lenOfV hn, run_szV hsz, h2.2, goInt]
              simp only [builtin, Sem.run_bind, key, Result.andThen_ok, Sem.run_pure, V.re]
            · rename_i b off
              split at hv
              · rename_i c ce hg
                split at hv
                · rename_i hle
                  split at hv
                  · rename_i hone
                    split at hv
                    case h_2 => cases hv
                    rename_i hro
                    cases hv
                    refine PrimOk.write hg rfl rfl (fun H σ w ρ he hr hi l hl hB => ?_) (firstV_lt hf)
                    have ha := args_re ho he hx
                    have h2 := run_firstV hf hr hi
                    obtain ⟨w', hrun, e1, e2, e3, e4, e5, hB'⟩ := storeCells_rel hl hB hro off vs (Nat.le_of_ble_eq_true hle) (allOne_mem hone) ((V.onL_iff _ _).1 h2.1)
                    refine ⟨w', _, .int .i64 (Nat.min n dLen : Nat), e1, e2, e3, e4, e5, hB', .inl rfl, ⟨trivial, rfl⟩, ?_⟩
                    rw [call_builtin ho, ha.2]
                    have key : (Builtin.copy_ argTypes o.type (V.reL σ [.slice (some (b, off)) dLen dCap ex, s]).toArray).run P w = .ok (.int .i64 (Nat.min n dLen : Nat)) w' := by
                      simp [Builtin.copy_, ht, V.reL, V.re, run_underlying hu, run_lenOfV hn, run_szV hsz, h2.2, goInt, V.reL_eq, hrun]
                    simp only [builtin, Sem.run_bind, key, Result.andThen_ok, Sem.run_pure]
                  · cases hv
                · cases hv
              · cases hv
          · cases hv
        · cases hv
      · cases hv
    · cases hv
  · cases hv

end Go.Vm
