/- The virtual machine's arithmetic and comparison, and that the real ones do the like. -/
import Derived.Test.YtmkdbninmimndaaVmC
import Derived.Laws.StructEq
set_option linter.unusedVariables false
set_option linter.unusedSimpArgs false
namespace Go.Vm
variable {P : Program}

/-! ### numbers -/
def intBin (op : BinOp) (k : IntKind) (a b : Int) : Option V :=
  match op with
  | .add => some (.int k (k.wrap (a + b)))
  | .sub => some (.int k (k.wrap (a - b)))
  | .mul => some (.int k (k.wrap (a * b)))
  | .quo => if b = 0 then none else some (.int k (k.wrap (a.tdiv b)))
  | .rem => if b = 0 then none else some (.int k (a.tmod b))
  | .and => some (.int k (k.wrap (BitVec.ofInt k.bits a &&& BitVec.ofInt k.bits b).toNat))
  | .or => some (.int k (k.wrap (BitVec.ofInt k.bits a ||| BitVec.ofInt k.bits b).toNat))
  | .xor => some (.int k (k.wrap (BitVec.ofInt k.bits a ^^^ BitVec.ofInt k.bits b).toNat))
  | .andNot => some (.int k (k.wrap (BitVec.ofInt k.bits a &&& ~~~ BitVec.ofInt k.bits b).toNat))
  | .eql => some (.bool (a == b))
  | .neq => some (.bool (a != b))
  | .lss => some (.bool (a < b))
  | .leq => some (.bool (a ≤ b))
  | .gtr => some (.bool (a > b))
  | .geq => some (.bool (a ≥ b))
  | .shl | .shr => none
def intShift (op : BinOp) (k : IntKind) (a b : Int) : Option V :=
  if b < 0 then none else match op with
  | .shl => some (.int k (k.wrap (a * 2 ^ (min b.toNat k.bits))))
  | .shr => some (.int k (a.fdiv (2 ^ (min b.toNat k.bits))))
  | _ => none

theorem intBin_sound {op : BinOp} {k : IntKind} {a b : Int} {v : V} (h : intBin op k a b = some v) (t : TypeId) (w : World) (σ : Ren) :
    (binOp op t (.int k a) (.int k b)).run P w = .ok (v.re σ) w ∧ v.on σ := by
  cases op <;> simp only [intBin] at h <;> (try (split at h)) <;> (try cases h) <;>
    (first
      | (refine ⟨?_, trivial⟩; simp [binOp, Op.intArith, Op.intDiv, Op.intBits, Op.intCmp, V.re, *]; done)
      | (refine ⟨?_, trivial⟩; simp [binOp, Op.intArith, Op.intDiv, Op.intBits, Op.intCmp, V.re]; done))
theorem intShift_sound {op : BinOp} {k k' : IntKind} {a b : Int} {v : V} (h : intShift op k a b = some v) (t : TypeId) (w : World) (σ : Ren) :
    (binOp op t (.int k a) (.int k' b)).run P w = .ok (v.re σ) w ∧ v.on σ := by
  unfold intShift at h
  split at h
  · cases h
  · rename_i hb
    cases op <;> simp only [] at h <;> (try cases h) <;> refine ⟨?_, trivial⟩ <;> simp [binOp, Op.shift, hb, V.re]

/-- Bytes held against each other, one by one. -/
def eqB : List UInt8 → List UInt8 → Bool
  | [], [] => true
  | a :: l, b :: r => match Nat.beq a.toNat b.toNat with
    | true => eqB l r
    | false => false
  | _, _ => false
theorem eqB_eq : ∀ (a b : List UInt8), eqB a b = (a == b)
  | [], [] => rfl
  | a :: l, [] => rfl
  | [], b :: r => rfl
  | a :: l, b :: r => by
    unfold eqB
    split
    · rename_i h
      have h := UInt8.toNat_inj.1 (Nat.eq_of_beq_eq_true h)
      subst h
      rw [eqB_eq l r]; simp
    · rename_i h
      have hne : a ≠ b := fun e => by subst e; simp at h
      simp [hne]
theorem eqB_bytes (a b : ByteArray) : eqB a.data.toList b.data.toList = (a.toList == b.toList) := by rw [eqB_eq, ByteArray.toList_eq, ByteArray.toList_eq]
def strBin (op : BinOp) (a b : ByteArray) : Option V :=
  match op with
  | .eql => some (.bool (eqB a.data.toList b.data.toList))
  | .neq => some (.bool (!eqB a.data.toList b.data.toList))
  | .lss => some (.bool (Op.bytesLess a.data.toList b.data.toList))
  | .leq => some (.bool (Op.bytesLess a.data.toList b.data.toList || eqB a.data.toList b.data.toList))
  | .gtr => some (.bool (!(Op.bytesLess a.data.toList b.data.toList || eqB a.data.toList b.data.toList)))
  | .geq => some (.bool (!Op.bytesLess a.data.toList b.data.toList))
  | .add => if ((a.size + b.size : Nat) : Int) > IntKind.i64.max then none else some (.str (a ++ b))
  | _ => none
theorem strBin_sound {op : BinOp} {a b : ByteArray} {v : V} (h : strBin op a b = some v) (t : TypeId) (w : World) (σ : Ren) :
    (binOp op t (.string a) (.string b)).run P w = .ok (v.re σ) w ∧ v.on σ := by
  have e : ∀ x : ByteArray, x.data.toList = x.toList := fun x => (ByteArray.toList_eq x).symm
  cases op <;> simp only [strBin, eqB_eq, e] at h <;> (try (split at h)) <;> (try cases h) <;>
    (first
      | (refine ⟨?_, trivial⟩; simp [binOp, Op.stringOp, V.re]; done)
      | (refine ⟨?_, trivial⟩; rename_i hh; simp only [binOp, Op.stringOp, if_neg hh]; rfl))

/-- Two values held against each other, where no memory is looked at. -/
def eqSmall (P : Program) (t : TypeId) (x y : V) : Option Bool :=
  match P.underlying t, x, y with
  | some .bool, .bool a, .bool b => some (a == b)
  | some (.pointer _), .ptr none, .ptr b => some b.isNone
  | some (.pointer _), .ptr (some _), .ptr none => some false
  | some (.slice _), .slice none _ _ _, .slice b _ _ _ => some b.isNone
  | some (.slice _), .slice (some _) _ _ _, .slice none _ _ _ => some false
  | some (.slice _), .esl _, .slice none _ _ _ => some false
  | some (.slice _), .slice none _ _ _, .esl _ => some false
  | some (.interface _), .iface _ _, .nilIface => some false
  | some (.interface _), .nilIface, .iface _ _ => some false
  | some (.map _ _), .map none, .map b => some b.isNone
  | some (.map _ _), .map (some _), .map none => some false
  | some (.func _ _ _), .nilFunc, .nilFunc => some true
  | some (.func _ _ _), .nilFunc, .func _ _ _ => some false
  | some (.func _ _ _), .func _ _ _, .nilFunc => some false
  | some (.func _ _ _), .nilFunc, .yield _ => some false
  | some (.func _ _ _), .yield _, .nilFunc => some false
  | _, _, _ => none
theorem eqSmall_in {t : TypeId} {x y : V} {b : Bool} (h : eqSmall P t x y = some b) (w : World) (σ : Ren) (d : Nat) :
    (Op.equalIn (d + 1) t (x.re σ) (y.re σ)).run P w = .ok b w := by
  unfold eqSmall at h
  split at h <;> (try cases h) <;> rename_i hu <;> simp [Op.equalIn, run_underlying hu, V.re]
  all_goals (first | (rename_i a _ _ _; cases a <;> simp [V.re]; done) | (rename_i a; cases a <;> simp [V.re]; done) | skip)
theorem eqSmall_sound {t : TypeId} {x y : V} {b : Bool} (h : eqSmall P t x y = some b) (w : World) (σ : Ren) :
    (Op.equal t (x.re σ) (y.re σ)).run P w = .ok b w := eqSmall_in h w σ 9999

def szV (P : Program) (t : TypeId) : Option Nat := (P.info? t).map (·.size)
theorem run_szV {t : TypeId} {n : Nat} (h : szV P t = some n) (w : World) : (sizeOf t).run P w = .ok n w := by
  unfold szV at h
  cases hi : P.info? t with
  | none => simp [hi] at h
  | some i => simp [hi] at h; simp [sizeOf, typeInfo, hi, h]
def aggV (P : Program) (t : TypeId) : Option Bool := match P.underlying t with
  | some (.struct _) => some true
  | some (.array _ _) => some true
  | some _ => some false
  | none => none
theorem run_aggV {t : TypeId} {b : Bool} (h : aggV P t = some b) (w : World) : (isAgg t).run P w = .ok b w := by
  unfold aggV at h
  split at h <;> (try cases h)
  · rename_i hu; simp [isAgg, run_underlying hu]
  · rename_i hu; simp [isAgg, run_underlying hu]
  · rename_i d h1 h2 hu
    simp only [isAgg, Sem.run_bind, run_underlying hu, Result.andThen_ok]
    cases d <;> simp_all

/-! ### arithmetic and comparison -/
def binV (P : Program) (op : BinOp) (t : TypeId) (x y : V) : Option V :=
  match x, y with
  | .int k a, .int k' b => match op with
    | .shl => intShift .shl k a b
    | .shr => intShift .shr k a b
    | op => if k = k' then intBin op k a b else none
  | .str a, .str b => strBin op a b
  | x, y => match op with
    | .eql => match eqSmall P t x y with
      | some b => some (.bool b)
      | none => none
    | .neq => match eqSmall P t x y with
      | some b => some (.bool (!b))
      | none => none
    | _ => none

theorem eqGuard_small {t : TypeId} {x y : V} {b : Bool} (h : eqSmall P t x y = some b) (op : BinOp) (ox oy : Operand) (w : World) (σ : Ren) :
    (eqGuard op t ox oy (x.re σ) (y.re σ)).run P w = .ok () w := by
  unfold eqSmall at h
  unfold eqGuard
  split at h <;> (try cases h) <;> cases op <;> simp [V.re]
  all_goals (first | (rename_i a _ _ _ _; cases a <;> simp [V.re]; done) | (rename_i a _; cases a <;> simp [V.re]; done) | skip)

theorem binV_sound {op : BinOp} {t : TypeId} {x y : V} {v : V} (h : binV P op t x y = some v) (ox oy : Operand) (w : World) (σ : Ren) :
    ((do eqGuard op t ox oy (x.re σ) (y.re σ); binOp op t (x.re σ) (y.re σ)) : Sem Value).run P w = .ok (v.re σ) w ∧ v.on σ := by
  unfold binV at h
  split at h
  · rename_i k a k' b
    have hg : (eqGuard op t ox oy ((V.int k a).re σ) ((V.int k' b).re σ)).run P w = .ok () w := by
      cases op <;> simp [eqGuard, V.re]
    simp only [Sem.run_bind, hg, Result.andThen_ok]
    split at h
    · exact intShift_sound h t w σ
    · exact intShift_sound h t w σ
    · split at h
      · rename_i e; subst e; exact intBin_sound h t w σ
      · cases h
  · rename_i a b
    have hg : (eqGuard op t ox oy ((V.str a).re σ) ((V.str b).re σ)).run P w = .ok () w := by
      cases op <;> simp [eqGuard, V.re]
    simp only [Sem.run_bind, hg, Result.andThen_ok]
    exact strBin_sound h t w σ
  · rename_i hni hns
    split at h
    · split at h
      · rename_i b hb
        cases h
        refine ⟨?_, trivial⟩
        simp only [Sem.run_bind, eqGuard_small hb, Result.andThen_ok]
        have hq := eqSmall_sound hb w σ
        have : binOp .eql t (x.re σ) (y.re σ) = (do Pure.pure (Value.bool (← Op.equal t (x.re σ) (y.re σ))) : Sem Value) := by
          unfold eqSmall at hb
          split at hb <;> (try cases hb) <;> simp [V.re, binOp]
          all_goals (first | (rename_i a _ _ _ _; cases a <;> simp [V.re, binOp]; done) | (rename_i a _; cases a <;> simp [V.re, binOp]; done) | skip)
        rw [this]
        simp [hq, V.re]
      · cases h
    · split at h
      · rename_i b hb
        cases h
        refine ⟨?_, trivial⟩
        simp only [Sem.run_bind, eqGuard_small hb, Result.andThen_ok]
        have hq := eqSmall_sound hb w σ
        have : binOp .neq t (x.re σ) (y.re σ) = (do Pure.pure (Value.bool (!(← Op.equal t (x.re σ) (y.re σ)))) : Sem Value) := by
          unfold eqSmall at hb
          split at hb <;> (try cases hb) <;> simp [V.re, binOp]
          all_goals (first | (rename_i a _ _ _ _; cases a <;> simp [V.re, binOp]; done) | (rename_i a _; cases a <;> simp [V.re, binOp]; done) | skip)
        rw [this]
        simp [hq, V.re]
      · cases h
    · cases h

def unV (op : UnOp) (x : V) : Option V := match op, x with
  | .not, .bool b => some (.bool (!b))
  | .neg, .int k n => some (.int k (k.wrap (0 - n)))
  | .xor, .int k n => intBin .xor k (if k.signed then -1 else k.max) n
  | _, _ => none
theorem unV_sound {op : UnOp} {x v : V} (h : unV op x = some v) (w : World) (σ : Ren) : (Op.unary op (x.re σ)).run P w = .ok (v.re σ) w ∧ v.on σ := by
  unfold unV at h
  split at h
  · cases h; exact ⟨by simp [Op.unary, V.re], trivial⟩
  · cases h; exact ⟨by simp [Op.unary, Op.intArith, V.re], trivial⟩
  · simp only [intBin] at h; cases h; exact ⟨by simp [Op.unary, Op.intBits, V.re], trivial⟩
  · cases h

end Go.Vm
