/- The virtual machine's operations: slicing, copying, appending, conversions. -/
import Derived.Test.YtmkdbninmimndaaVmF
set_option linter.unusedVariables false
set_option linter.unusedSimpArgs false
namespace Go.Vm
variable {P : Program} {tm : Tm} {o : Oper} {h : Heap}

/-! ### slicing -/
def boundsV (len cap : Nat) (lo hi mx : Option Int) : Option (Nat × Nat × Nat) :=
  match (match mx with
    | some i => if 0 ≤ i ∧ i ≤ cap then some i.toNat else none
    | none => some cap) with
  | none => none
  | some m => match (match hi with
      | some i => if 0 ≤ i ∧ i ≤ m then some i.toNat else none
      | none => match mx with
        | none => some len
        | some _ => none) with
    | none => none
    | some hh => match (match lo with
        | some i => if 0 ≤ i ∧ i ≤ hh then some i.toNat else none
        | none => some 0) with
      | none => none
      | some l => some (l, hh, m)
theorem run_bounds {len cap l hh m : Nat} {lo hi mx : Option (IntKind × Int)} (hb : boundsV len cap (lo.map (·.2)) (hi.map (·.2)) (mx.map (·.2)) = some (l, hh, m)) (isS : Bool) (w : World) :
    (Instr.sliceBounds isS len cap (lo.map fun x => .int x.1 x.2) (hi.map fun x => .int x.1 x.2) (mx.map fun x => .int x.1 x.2)).run P w = .ok (l, hh, m) w := by
  unfold boundsV at hb
  split at hb
  · cases hb
  · rename_i m' hm
    split at hb
    · cases hb
    · rename_i h' hh'
      split at hb
      · cases hb
      · rename_i l' hl
        cases hb
        unfold Instr.sliceBounds
        rcases mx with _ | ⟨mk, mi⟩ <;> rcases hi with _ | ⟨hk, hi⟩ <;> rcases lo with _ | ⟨lk, li⟩ <;> simp only [Option.map_none, Option.map_some] at hm hh' hl ⊢ <;> (try (cases hh'; done)) <;>
          (repeat' (split at hm <;> try (cases hm; done))) <;> (repeat' (split at hh' <;> try (cases hh'; done))) <;> (repeat' (split at hl <;> try (cases hl; done))) <;>
          simp_all [Instr.sliceBound, asIntOf]
theorem bounds_more {len cap l hh m : Nat} {lo hi : Option Int} (hb : boundsV len cap lo hi none = some (l, hh, m)) (s : Nat) : m = cap ∧ boundsV len (cap + s) lo hi none = some (l, hh, cap + s) := by
  unfold boundsV at hb ⊢
  simp only at hb ⊢
  rcases hi with _ | i
  · simp only at hb ⊢
    split at hb
    · cases hb
    · rename_i l' hl; cases hb; exact ⟨rfl, by simp [hl]⟩
  · simp only at hb ⊢
    by_cases hc : 0 ≤ i ∧ i ≤ (cap : Int)
    · rw [if_pos hc] at hb; rw [if_pos (by omega)]
      simp only at hb ⊢
      split at hb
      · cases hb
      · rename_i l' hl; cases hb; exact ⟨rfl, by simp [hl]⟩
    · rw [if_neg hc] at hb; cases hb
theorem bounds_le {len cap l hh m : Nat} {lo hi mx : Option Int} (hb : boundsV len cap lo hi mx = some (l, hh, m)) (hlc : len ≤ cap) : l ≤ hh ∧ hh ≤ m ∧ m ≤ cap := by
  unfold boundsV at hb
  split at hb
  · cases hb
  · rename_i m' hm
    split at hb
    · cases hb
    · rename_i h' hh'
      split at hb
      · cases hb
      · rename_i l' hl
        cases hb
        have a1 : m ≤ cap := by
          rcases mx with _ | mi <;> simp only at hm
          · cases hm; exact Nat.le_refl _
          · split at hm <;> cases hm; omega
        have a2 : hh ≤ m := by
          rcases hi with _ | x <;> simp only at hh'
          · rcases mx with _ | mi <;> simp only at hh' hm
            · cases hh'; cases hm; exact hlc
            · cases hh'
          · split at hh' <;> cases hh'; omega
        have a3 : l ≤ hh := by
          rcases lo with _ | x <;> simp only at hl
          · cases hl; omega
          · split at hl <;> cases hl; omega
        exact ⟨a3, a2, a1⟩

def evI (tm : Tm) : Option Operand → Option (Option (IntKind × Int))
  | none => some none
  | some x => match evV tm x with
    | some (.int k i) => some (some (k, i))
    | _ => none
theorem evI_rel {σ : Ren} {tm : Tm} {ρ : Operand → Value} {x : Option Operand} {r : Option (IntKind × Int)} (h : evI tm x = some r) (he : ∀ y, x = some y → ∀ v, evV tm y = some v → VRel σ v (ρ y)) :
    x.map ρ = r.map fun p => .int p.1 p.2 := by
  cases x with
  | none => cases h; rfl
  | some y =>
    unfold evI at h
    simp only at h
    split at h
    · rename_i k i hv; cases h
      simp [(he y rfl _ hv).2, V.re]
    · cases h

def sliceV (P : Program) (t : TypeId) (x : V) (lo hi mx : Option Int) : Option V := match P.underlying t with
  | some (.array n e) => match x with
    | .ptr (some (b, off)) => match szV P e with
      | some sz => match boundsV n n lo hi mx with
        | some (l, hh, m) => some (.slice (some (b, match Nat.beq m l with | true => off | false => off + l * sz)) (hh - l) (m - l) true)
        | none => none
      | none => none
    | _ => none
  | some .string => match x, mx with
    | .str s, none => match boundsV s.size s.size lo hi none with
      | some (l, hh, _) => some (.str (s.extract l hh))
      | none => none
    | _, _ => none
  | some (.slice e) => match szV P e with
    | some sz => match x with
      | .slice none len cap _ => match boundsV len cap lo hi mx with
        | some (l, hh, m) => some (.slice none (hh - l) (m - l) true)
        | none => none
      | .slice (some (b, off)) len cap ex => match boundsV len cap lo hi mx with
        | some (l, hh, m) => match ex, mx with
          | false, none => if len ≤ cap ∧ (Nat.blt l m = true ∨ l = 0) then some (.slice (some (b, off + l * sz)) (hh - l) (m - l) false) else none
          | _, _ => some (.slice (some (b, match Nat.beq m l with | true => off | false => off + l * sz)) (hh - l) (m - l) true)
        | none => none
      | .esl a => match boundsV 0 0 lo hi mx with
        | some (l, hh, m) => some (.esl a)
        | none => none
      | _ => none
    | none => none
  | _ => none

theorem map_snd (r : Option (IntKind × Int)) : r.map (·.2) = r.map fun p => p.2 := rfl

theorem bounds_cap {len cap l hh m : Nat} {lo hi : Option Int} {mi : Int} (hb : boundsV len cap lo hi (some mi) = some (l, hh, m)) (s : Nat) : boundsV len (cap + s) lo hi (some mi) = some (l, hh, m) := by
  unfold boundsV at hb ⊢
  simp only at hb ⊢
  by_cases hc : 0 ≤ mi ∧ mi ≤ (cap : Int)
  · rw [if_pos hc] at hb; rw [if_pos (by omega)]; exact hb
  · rw [if_neg hc] at hb; cases hb

theorem ok_slice {t : TypeId} {x : Operand} {lo hi mx : Option Operand} {rl rh rm : Option (IntKind × Int)} {vx v : V} (ho : o.op = .slice t x lo hi mx) (hx : evV tm x = some vx) (hl : evI tm lo = some rl) (hh : evI tm hi = some rh) (hm : evI tm mx = some rm)
    (hv : sliceV P t vx (rl.map (·.2)) (rh.map (·.2)) (rm.map (·.2)) = some v) : PrimOk P tm o h ⟨v, h, [], []⟩ :=
  PrimOk.pure fun σ w ρ he => by
    have h1 := he x (by simp [ho, Op.operands]) _ hx
    have el := evI_rel (ρ := ρ) hl fun y hy => he y (by subst hy; simp [ho, Op.operands])
    have eh := evI_rel (ρ := ρ) hh fun y hy => he y (by subst hy; simp [ho, Op.operands])
    have em := evI_rel (ρ := ρ) hm fun y hy => he y (by subst hy; simp [ho, Op.operands])
    have goal : ∀ v', (Instr.sliceAt t (vx.re σ) (rl.map fun p => .int p.1 p.2) (rh.map fun p => .int p.1 p.2) (rm.map fun p => .int p.1 p.2)).run P w = .ok v' w → (execOp ρ o).run P w = .ok (.value v') w := fun v' hr => by
      simp only [execOp, ho, h1.2, el, eh, em]
      rw [Sem.run_bind, hr]; rfl
    unfold sliceV at hv
    split at hv
    · rename_i n e hu
      split at hv
      · rename_i b off
        split at hv
        · rename_i sz hsz
          split at hv
          · rename_i l hh' m hb
            cases hv
            refine ⟨show σ.is b from h1.1, goal _ ?_⟩
            have hr := run_bounds (P := P) hb false w
            simp only [Instr.sliceAt]
            simp only [Sem.run_bind, run_underlying hu, Result.andThen_ok, V.re, Option.map_some, Instr.sureAddr, Sem.run_pure, hr, run_szV hsz]
            cases hq : Nat.beq m l with
            | true => have := Nat.eq_of_beq_eq_true hq; simp [this]
            | false => have : m ≠ l := fun e => by subst e; simp at hq
                       simp [this, addr_add]
          · cases hv
        · cases hv
      · cases hv
    · rename_i hu
      split at hv
      · rename_i s hmx
        split at hv
        · rename_i l hh' m hb
          cases hv
          refine ⟨trivial, goal _ ?_⟩
          have hmx' : rm = none := by cases rm with | none => rfl | some _ => cases hmx
          subst hmx'
          have hr := run_bounds (P := P) (lo := rl) (hi := rh) (mx := none) hb false w
          simp only [Option.map_none] at hr
          simp only [Instr.sliceAt, Instr.slice]
          simp [run_underlying hu, V.re, hr]
        · cases hv
      · cases hv
    · rename_i e hu
      split at hv
      · rename_i sz hsz
        split at hv
        · rename_i len cap ex
          split at hv
          · rename_i l hh' m hb
            cases hv
            refine ⟨trivial, goal _ ?_⟩
            have hr := run_bounds (P := P) hb true w
            simp only [Instr.sliceAt, Instr.slice]
            simp [run_underlying hu, V.re, hr, run_szV hsz]
          · cases hv
        · rename_i b off len cap ex
          split at hv
          · rename_i l hh' m hb
            split at hv
            · rename_i hmx
              split at hv
              · rename_i hc
                cases hv
                refine ⟨show σ.is b from h1.1, goal _ ?_⟩
                have hmx' : rm = none := by cases rm with | none => rfl | some _ => cases hmx
                subst hmx'
                obtain ⟨hm1, hb2⟩ := bounds_more hb (σ.k b)
                have hr := run_bounds (P := P) (lo := rl) (hi := rh) (mx := none) hb2 true w
                simp only [Option.map_none] at hr
                have hle := bounds_le hb hc.1
                simp only [Instr.sliceAt, Instr.slice]
                simp only [Sem.run_bind, run_underlying hu, Result.andThen_ok, V.re, Bool.false_eq_true, if_false, Option.map_none, hr, run_szV hsz, Sem.run_pure]
                have hsub : cap + σ.k b - l = m - l + σ.k b := by omega
                rw [hsub]
                by_cases hq : cap + σ.k b = l
                · have hl0 : l = 0 := by rcases hc.2 with h | h
                                         · have := Nat.blt_eq.mp h; omega
                                         · exact h
                  rw [if_pos hq]; simp [hl0]
                · rw [if_neg hq]; simp [addr_add]
              · cases hv
            · rename_i ex _ _ hne
              cases hv
              refine ⟨show σ.is b from h1.1, goal _ ?_⟩
              have hr : (Instr.sliceBounds true len (if ex then cap else cap + σ.k b) (rl.map fun x => .int x.1 x.2) (rh.map fun x => .int x.1 x.2) (rm.map fun x => .int x.1 x.2)).run P w = .ok (l, hh', m) w := by
                cases ex with
                | true => exact run_bounds (P := P) hb true w
                | false =>
                  cases rm with
                  | none => exact (hne rfl rfl).elim
                  | some mm => exact run_bounds (P := P) (mx := some mm) (bounds_cap hb _) true w
              simp only [Instr.sliceAt, Instr.slice]
              simp only [Sem.run_bind, run_underlying hu, Result.andThen_ok, V.re, if_true, hr, run_szV hsz, Sem.run_pure]
              cases hq : Nat.beq m l with
              | true => have := Nat.eq_of_beq_eq_true hq; simp [this]
              | false => have : m ≠ l := fun e => by subst e; simp at hq
                         simp [this, addr_add]
          · cases hv
        · rename_i a
          split at hv
          · rename_i l hh' m hb
            cases hv
            refine ⟨trivial, goal _ ?_⟩
            have hr := run_bounds (P := P) hb true w
            have h0 : l = 0 ∧ hh' = 0 ∧ m = 0 := by have := bounds_le hb (Nat.le_refl _); omega
            obtain ⟨rfl, rfl, rfl⟩ := h0
            simp only [Instr.sliceAt, Instr.slice]
            simp only [Sem.run_bind, run_underlying hu, Result.andThen_ok, V.re, hr, run_szV hsz, Sem.run_pure]
            simp
          · cases hv
        · cases hv
      · cases hv
    · cases hv

/-! ### conversions -/
def strL : List V → Option (List UInt8)
  | [] => some []
  | .int .u8 n :: r => match strL r with
    | some l => some (UInt8.ofNat n.toNat :: l)
    | none => none
  | _ => none
def convV (P : Program) (s d : TypeId) (x : V) (h : Heap) : Option (V × List Nat) := match P.underlying s, P.underlying d, x with
  | some _, some (.int k), .int _ n => some (.int k (k.wrap n), [])
  | some _, some .string, .str s => some (.str s, [])
  | some (.slice e), some .string, .slice none _ _ _ => match P.underlying e with
    | some (.int .u8) => some (.str .empty, [])
    | _ => none
  | some (.slice e), some .string, .esl _ => match P.underlying e with
    | some (.int .u8) => some (.str .empty, [])
    | _ => none
  | some (.slice e), some .string, .slice (some (b, off)) len _ _ => match P.underlying e with
    | some (.int .u8) => match h.get b with
      | some (.cells c _) => match Nat.ble (off + len) c.size with
        | true => match strL (c.gets off len) with
          | some l => some (.str ⟨⟨l⟩⟩, [b])
          | none => none
        | false => none
      | _ => none
    | _ => none
  | _, _, _ => none
theorem convV_lt {s d : TypeId} {vx v : V} {rs : List Nat} (hv : convV P s d vx h = some (v, rs)) : ∀ b ∈ rs, b < h.n := by
  unfold convV at hv
  (repeat' (split at hv)) <;> cases hv <;> (try simp)
  exact Heap.get_lt (by assumption)
theorem push_data (acc : ByteArray) (u : UInt8) : (acc.push u).data.toList = acc.data.toList ++ [u] := by
  obtain ⟨⟨l⟩⟩ := acc; simp [ByteArray.push]
theorem run_strL (g : Value → ByteArray → Sem (ForInStep ByteArray)) (hg : ∀ n s, g (.int .u8 n) s = pure (.yield (s.push (UInt8.ofNat n.toNat)))) (σ : Ren) (w : World) : ∀ (l : List V) (acc : ByteArray) (r : List UInt8), strL l = some r →
    (forIn (V.reL σ l) acc g : Sem ByteArray).run P w = .ok ⟨⟨acc.data.toList ++ r⟩⟩ w
  | [], acc, r, h => by cases h; obtain ⟨⟨l⟩⟩ := acc; simp [V.reL]
  | v :: l, acc, r, h => by
    unfold strL at h
    split at h
    · rename_i e; cases e
    · rename_i n r' e
      cases e
      split at h
      · rename_i u hu
        cases h
        simp only [V.reL, V.re, List.forIn_cons, Sem.run_bind, hg]
        simp only [Sem.run_pure, Result.andThen_ok]
        rw [run_strL g hg σ w l _ u hu, push_data]
        simp
      · cases h
    · cases h
theorem ok_convert {s d : TypeId} {x : Operand} {vx v : V} {rs : List Nat} (ho : o.op = .convert s d x) (hx : evV tm x = some vx) (hv : convV P s d vx h = some (v, rs)) : PrimOk P tm o h ⟨v, h, rs, []⟩ := by
  refine PrimOk.read (fun H σ w ρ he hr hi => ?_) (convV_lt hv)
  · skip
    have h1 := he x (by simp [ho, Op.operands]) _ hx
    have goal : ∀ v', (convert s d (vx.re σ)).run P w = .ok v' w → (execOp ρ o).run P w = .ok (.value v') w := fun v' hr => by
      simp only [execOp, ho, h1.2]
      rw [Sem.run_bind, hr]; rfl
    unfold convV at hv
    split at hv
    · rename_i ds k k' n hs hd
      cases hv
      refine ⟨trivial, goal _ ?_⟩
      simp [convert, run_underlying hs, run_underlying hd, V.re, Conv.intToInt]
    · rename_i ds st hs hd
      cases hv
      refine ⟨trivial, goal _ ?_⟩
      cases ds <;> simp [convert, run_underlying hs, run_underlying hd, V.re]
    · rename_i e len cap ex hs hd
      split at hv
      · rename_i he8
        cases hv
        refine ⟨trivial, goal _ ?_⟩
        simp [convert, run_underlying hs, run_underlying hd, run_underlying he8, V.re, Conv.bytesToString]
      · cases hv
    · rename_i e a hs hd
      split at hv
      · rename_i he8
        cases hv
        refine ⟨trivial, goal _ ?_⟩
        simp [convert, run_underlying hs, run_underlying hd, run_underlying he8, V.re, Conv.bytesToString, loadCells]
        rfl
      · cases hv
    · rename_i e b off len cap ex hs hd
      split at hv
      · rename_i he8
        split at hv
        · rename_i c ce hg
          split at hv
          · rename_i hle
            split at hv
            · rename_i st hst
              cases hv
              refine ⟨trivial, goal _ ?_⟩
              have h2 := loadCells_rel hi (show H b = some (.cells c ce) by rw [hr b (by simp), hg]) off len (Nat.le_of_ble_eq_true hle)
              simp only [convert, Sem.run_bind, run_underlying hs, run_underlying hd, Result.andThen_ok, V.re, run_underlying he8, Conv.bytesToString, h2.2, List.forIn_toArray]
              rw [run_strL (P := P) _ (fun _ _ => rfl) σ w _ _ _ hst]
              simp
            · cases hv
          · cases hv
        · cases hv
      · cases hv
    · cases hv

end Go.Vm
