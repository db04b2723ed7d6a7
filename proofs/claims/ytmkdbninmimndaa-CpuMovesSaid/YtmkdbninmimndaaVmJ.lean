/- The virtual machine's plain operations, all together. -/
import Derived.Test.YtmkdbninmimndaaVmI
import Derived.Test.YtmkdbninmimndaaVmHM
set_option linter.unusedVariables false
set_option linter.unusedSimpArgs false
namespace Go.Vm
variable {P : Program} {tm : Tm} {o : Oper} {h : Heap}

def one (h : Heap) : Option V → Option Pr
  | some v => some ⟨v, h, [], []⟩
  | none => none
theorem one_some {h : Heap} {x : Option V} {pr : Pr} (e : one h x = some pr) : ∃ v, x = some v ∧ pr = ⟨v, h, [], []⟩ := by
  cases x with
  | none => cases e
  | some v => cases e; exact ⟨v, rfl, rfl⟩

def idxAddr (P : Program) (t : TypeId) (x ix : V) : Option V := match ix with
  | .int _ i => match x with
    | .slice (some (b, off)) len _ _ => match idxSlice P t with
      | some sz => if 0 ≤ i ∧ i < len then some (.ptr (some (b, off + i.toNat * sz))) else none
      | none => none
    | .ptr (some (b, off)) => match idxArray P t with
      | some (len, sz) => if 0 ≤ i ∧ i < len then some (.ptr (some (b, off + i.toNat * sz))) else none
      | none => none
    | _ => none
  | _ => none

def binW (P : Program) (op : BinOp) (t : TypeId) (x y : V) : Option V := match x with
  | .agg _ => binA P op t x y
  | _ => binV P op t x y

def isConst : Operand → Bool
  | .const _ => true
  | _ => false
/-- Two interface values that are nil, one of them the literal. -/
def nilsV (P : Program) (op : BinOp) (t : TypeId) (x y : Operand) : Option V := match P.underlying t, isConst x || isConst y, op with
  | some (.interface _), true, .eql => some (.bool true)
  | some (.interface _), true, .neq => some (.bool false)
  | _, _, _ => none
def binN (P : Program) (op : BinOp) (t : TypeId) (x y : Operand) (a b : V) : Option V := match a, b with
  | .nilIface, .nilIface => nilsV P op t x y
  | a, b => binW P op t a b
theorem nils_guard {x y : Operand} (hc : (isConst x || isConst y) = true) (op : BinOp) (t : TypeId) (w : World) : (eqGuard op t x y .nilIface .nilIface).run P w = .ok () w := by
  unfold eqGuard
  cases op <;> first | rfl | (cases x <;> cases y <;> first | rfl | cases hc)
theorem nils_equal {t : TypeId} {m : Array (String × TypeId)} (hu : P.underlying t = some (.interface m)) (w : World) : (Op.equal t .nilIface .nilIface).run P w = .ok true w := by
  show (Op.equalIn (9999 + 1) t .nilIface .nilIface).run P w = _
  rw [Op.equalIn]
  simp only [Sem.run_bind, run_underlying hu, Result.andThen_ok]
  rfl
theorem ok_nils {tm : Tm} {o : Oper} {h : Heap} {op : BinOp} {t t' : TypeId} {x y : Operand} {v : V} (ho : o.op = .binOp op t x y t') (hx : evV tm x = some .nilIface) (hy : evV tm y = some .nilIface) (hv : nilsV P op t x y = some v) : PrimOk P tm o h ⟨v, h, [], []⟩ :=
  PrimOk.pure fun σ w ρ he => by
    have h2 := he x (by simp [ho, Op.operands]) _ hx
    have h3 := he y (by simp [ho, Op.operands]) _ hy
    unfold nilsV at hv
    split at hv
    · rename_i m hu hc
      cases hv
      refine ⟨trivial, ?_⟩
      simp only [execOp, ho, h2.2, h3.2, V.re, Sem.run_bind, nils_guard hc, Result.andThen_ok, binOp, nils_equal hu, Sem.run_pure]
    · rename_i m hu hc
      cases hv
      refine ⟨trivial, ?_⟩
      simp only [execOp, ho, h2.2, h3.2, V.re, Sem.run_bind, nils_guard hc, Result.andThen_ok, binOp, nils_equal hu, Sem.run_pure]
      rfl
    · cases hv
def ifaceV (P : Program) (t : TypeId) (v : V) : Option V := match P.underlying t with
  | some (.interface _) => none
  | some _ => some (.iface t v)
  | none => none
theorem ok_makeIface {P : Program} {tm : Tm} {o : Oper} {h : Heap} {t : TypeId} {x : Operand} {vx v : V} (ho : o.op = .makeInterface t x) (hx : evV tm x = some vx) (hv : ifaceV P t vx = some v) : PrimOk P tm o h ⟨v, h, [], []⟩ :=
  PrimOk.pure fun σ w ρ he => by
    have h1 := he x (by simp [ho, Op.operands]) _ hx
    unfold ifaceV at hv
    split at hv
    · cases hv
    · rename_i d hne hu
      cases hv
      refine ⟨h1.1, ?_⟩
      simp only [execOp, ho, h1.2, Instr.makeInterface, Sem.run_bind, run_underlying hu, Result.andThen_ok, V.re]
      cases d <;> first | exact absurd rfl (hne _) | rfl
    · cases hv
def evB (P : Program) (h : Heap) (b : Builtin) (ts : Array TypeId) (vs : List V) : Option Pr := match b, vs with
  | .len, [x] => match ts[0]? with
    | some t => match lenV P t x h with
      | some (n, rs) => some ⟨.int .i64 n, h, rs, []⟩
      | none => none
    | none => none
  | .cap, [x] => match ts[0]? with
    | some t => match capV P t x with
      | some n => some ⟨.int .i64 n, h, [], []⟩
      | none => none
    | none => none
  | .min, [.int k x, .int _ y] => some ⟨.int k (if y < x then y else x), h, [], []⟩
  | .max, [.int k x, .int _ y] => some ⟨.int k (if y > x then y else x), h, [], []⟩
  | .copy, [d, s] => match ts[0]? with
    | some t => copyV P t d s h
    | none => none
  | .append, [s, x] => match ts.toList with
    | [t, u] => appendV P t u s x h
    | _ => none
  | .delete, [x, k] => match ts[0]? with
    | some t => delV P t h x k
    | none => none
  | _, _ => none

/-- The conversion of a fixed string to bytes: the model marks the block. -/
def selfV (P : Program) (s : TypeId) (x : V) (h : Heap) : Option Pr := match P.underlying s with
  | some (.slice e) => match P.underlying e, x with
    | some (.int .u8), .slice (some (b, _)) _ _ _ => match h.get b with
      | some (.cells c ce) => match c.ro with
        | false => some ⟨x, h.set b (.cells c ce), [], [b]⟩
        | true => none
      | _ => none
    | _, _ => none
  | _ => none
theorem ok_self {P : Program} {tm : Tm} {o : Oper} {h : Heap} {s d : TypeId} {x : Operand} {vx : V} {pr : Pr} (hsd : Nat.beq s d = true) (ho : o.op = .convert s d x) (hx : evV tm x = some vx) (hv : selfV P s vx h = some pr) : PrimOk P tm o h pr := by
  obtain rfl := Nat.eq_of_beq_eq_true hsd
  unfold selfV at hv
  split at hv
  · rename_i e hs
    split at hv
    · rename_i b off len cap ex he
      split at hv
      · rename_i c ce hg
        split at hv
        case h_2 => cases hv
        rename_i hro
        cases hv
        refine PrimOk.write hg rfl rfl fun H σ w ρ hev hr hI l hl hB => ?_
        have h1 := hev x (by simp [ho, Op.operands]) _ hx
        obtain ⟨arr, ⟨fz, hfz, ha⟩, hsz, hc⟩ := hB
        have hfz := hfz hro
        have hlt : l.blk < w.heap.size := (Array.getElem?_eq_some_iff.1 ha).1
        have hf : ∃ fz', FzOk arr.size fz' ∧ (w.freeze ⟨l.blk, arr.size, none⟩ 1).heap[l.blk]? = some (.cells arr ce fz') := by
          obtain ⟨lo, hi⟩ := fz
          refine ⟨if lo == hi then (arr.size, arr.size + 1) else (min lo arr.size, max hi (arr.size + 1)), ?_, ?_⟩
          · rcases hfz with hfz | hfz
            · cases hfz; exact .inr (Nat.le_refl _)
            · refine .inr ?_
              split
              · exact Nat.le_refl _
              · simp only at hfz ⊢; omega
          · simp [World.freeze, Array.getElem?_modify, ha]
        obtain ⟨fz', hfz', ha'⟩ := hf
        refine ⟨w.freeze ⟨l.blk, arr.size, none⟩ 1, _, (V.slice (some (b, off)) len cap ex).re σ, by simp [World.freeze], fun k hk => by simp [World.freeze, Array.getElem?_modify, Ne.symm hk], rfl, rfl, rfl, ⟨arr, ⟨fz', fun _ => hfz', ha'⟩, hsz, hc⟩, .inl rfl, ⟨h1.1, rfl⟩, ?_⟩
        simp only [execOp, ho, h1.2, convert, V.re, reA, Ren.b_eq hl]
        simp [run_underlying hs, run_underlying he, markStringish, shape, freeze, Sem.run, World.shape?, ha]
      · cases hv
    · cases hv
  · cases hv

def evP (P : Program) (tm : Tm) (h : Heap) (o : Oper) : Option Pr := match o.op with
  | .move x => one h (evV tm x)
  | .assign x => one h (evV tm x)
  | .pick c a b => match evV tm c with
    | some (.bool true) => one h (evV tm a)
    | some (.bool false) => one h (evV tm b)
    | _ => none
  | .binOp op t x y _ => match evV tm x, evV tm y with
    | some vx, some vy => one h (binN P op t x y vx vy)
    | _, _ => none
  | .unOp op _ x => match evV tm x with
    | some vx => one h (unV op vx)
    | none => none
  | .nilCheck x => match evV tm x with
    | some v => match notNil v with
      | true => some ⟨v, h, [], []⟩
      | false => none
    | none => none
  | .makeFunc (.func f) xs ys => match evVs tm xs.toList, evVs tm ys.toList with
    | some us, some vs => some ⟨.func f us vs, h, [], []⟩
    | _, _ => none
  | .extract x i => match evV tm x with
    | some (.tuple vs) => one h vs[i]?
    | _ => none
  | .fieldAddr s x f => match evV tm x with
    | some (.ptr (some (b, off))) => match fieldOff P s f with
      | some k => some ⟨.ptr (some (b, off + k)), h, [], []⟩
      | none => none
    | _ => none
  | .indexAddr t x ix => match evV tm x, evV tm ix with
    | some vx, some vi => one h (idxAddr P t vx vi)
    | _, _ => none
  | .load t x => match evV tm x with
    | some (.ptr (some (b, off))) => match loadV P t h b off with
      | some v => some ⟨v, h, [b], []⟩
      | none => none
    | _ => none
  | .store t x y => match evV tm x, evV tm y with
    | some (.ptr (some (b, off))), some v => match storeV P t h b off v with
      | some h' => some ⟨undefV, h', [], [b]⟩
      | none => none
    | _, _ => none
  | .box t x => match evV tm x with
    | some v => some ⟨.ptr (some (h.n, 0)), h.push (.cells (Blk.of v.cellsV) t), [], []⟩
    | none => none
  | .alloc t => match zeroV P t with
    | some v => some ⟨.ptr (some (h.n, 0)), h.push (.cells (Blk.of v.cellsV) t), [], []⟩
    | none => none
  | .makeSlice t x y => match evV tm x, evV tm y with
    | some (.int _ l), some (.int _ c) => match makeSliceV P t l c h with
      | some (v, h') => some ⟨v, h', [], []⟩
      | none => none
    | _, _ => none
  | .build t parts => match evParts tm parts.toList with
    | some ps => match builtV P t ps with
      | some r => some ⟨.agg r, h, [], []⟩
      | none => none
    | none => none
  | .buildSlice t len parts => match evParts tm parts.toList with
    | some ps => match builtSliceV P t len ps with
      | some (e, r) => some ⟨.slice (some (h.n, 0)) len len true, h.push (.cells (Blk.of r) e), [], []⟩
      | none => none
    | none => none
  | .slice t x lo hi mx => match evV tm x, evI tm lo, evI tm hi, evI tm mx with
    | some vx, some rl, some rh, some rm => one h (sliceV P t vx (rl.map (·.2)) (rh.map (·.2)) (rm.map (·.2)))
    | _, _, _, _ => none
  | .convert s d x => match Nat.beq s d with
    | true => match evV tm x with
      | some vx => selfV P s vx h
      | none => none
    | false => match evV tm x with
      | some vx => match convV P s d vx h with
        | some (v, rs) => some ⟨v, h, rs, []⟩
        | none => none
      | none => none
  | .field t x f => match evV tm x with
    | some (.agg c) => one h (fieldV P t c f)
    | _ => none
  | .index t x y => match evV tm x, evV tm y with
    | some vx, some (.int _ i) => one h (indexV P t vx i)
    | _, _ => none
  | .makeMap t r => match r with
    | none => some ⟨.map (some h.n), h.push (.map [] 0), [], []⟩
    | some _ => none
  | .lookup t x y ok => match evV tm x, evV tm y with
    | some vx, some k => match lookV P t h vx k ok with
      | some (v, rs) => some ⟨v, h, rs, []⟩
      | none => none
    | _, _ => none
  | .mapUpdate t x y z => match evV tm x, evV tm y, evV tm z with
    | some vx, some k, some v => match updV P t h vx k v with
      | some (h', ws) => some ⟨undefV, h', [], ws⟩
      | none => none
    | _, _, _ => none
  | .insert t x y z => match evV tm x, evV tm y, evV tm z with
    | some vx, some k, some v => match updV P t h vx k v with
      | some (h', ws) => some ⟨undefV, h', [], ws⟩
      | none => none
    | _, _, _ => none
  | .range t x => match evV tm x with
    | some vx => match rangeV P t h vx with
      | some (it, rs) => some ⟨.ptr (some (h.n, 0)), h.push it, rs, []⟩
      | none => none
    | none => none
  | .sliceToArrayPointer t x => match evV tm x with
    | some vx => one h (arrAtV P t vx)
    | none => none
  | .next x isS => match isS with
    | true => none
    | false => match evV tm x with
      | some (.ptr (some (b, off))) => match Nat.beq off 0 with
        | true => nextV h b
        | false => none
      | _ => none
  | .entry x => match evV tm x with
    | some (.ptr (some (b, off))) => match Nat.beq off 0 with
      | true => match entryV h b with
        | some (v, rs) => some ⟨v, h, rs, []⟩
        | none => none
      | false => none
    | _ => none
  | .makeInterface t x => match evV tm x with
    | some vx => one h (ifaceV P t vx)
    | none => none
  | .call c => match c.callee with
    | .builtin b => match evVs tm c.args.toList with
      | some vs => evB P h b c.argTypes vs
      | none => none
    | _ => none
  | _ => none

theorem evB_ok {b : Builtin} {args : Array Operand} {ts : Array TypeId} {vs : List V} {pr : Pr} (ho : o.op = .call { callee := .builtin b, args, argTypes := ts }) (hx : evVs tm args.toList = some vs) (hv : evB P h b ts vs = some pr) : PrimOk P tm o h pr := by
  unfold evB at hv
  split at hv
  · split at hv
    · rename_i t ht
      split at hv
      · rename_i n rs hl; cases hv; exact ok_len ho ht hx hl
      · cases hv
    · cases hv
  · split at hv
    · rename_i t ht
      split at hv
      · rename_i n hl; cases hv; exact ok_cap ho ht hx hl
      · cases hv
    · cases hv
  · cases hv; exact ok_min ho hx
  · cases hv; exact ok_max ho hx
  · split at hv
    · rename_i t ht; exact ok_copy ho ht hx hv
    · cases hv
  · split at hv
    · rename_i t u ht
      have : ts = #[t, u] := by rw [← Array.toArray_toList (xs := ts), ht]
      subst this
      exact ok_append ho hx hv
    · cases hv
  · split at hv
    · rename_i t ht; exact ok_delete ho ht hx hv
    · cases hv
  · cases hv

theorem evP_ok {pr : Pr} (hv : evP P tm h o = some pr) : PrimOk P tm o h pr := by
  unfold evP at hv
  split at hv
  · rename_i x ho; obtain ⟨v, h1, rfl⟩ := one_some hv; exact ok_move (.inl ho) h1
  · rename_i x ho; obtain ⟨v, h1, rfl⟩ := one_some hv; exact ok_move (.inr ho) h1
  · rename_i c a b ho
    split at hv
    · rename_i hc; obtain ⟨v, h1, rfl⟩ := one_some hv; exact ok_pick ho hc h1
    · rename_i hc; obtain ⟨v, h1, rfl⟩ := one_some hv; exact ok_pick ho hc h1
    · cases hv
  · rename_i op t x y t' ho
    split at hv
    · rename_i vx vy hx hy
      obtain ⟨v, h1, rfl⟩ := one_some hv
      unfold binN at h1
      split at h1
      · exact ok_nils ho hx hy h1
      · unfold binW at h1
        split at h1
        · exact ok_binA ho hx hy h1
        · exact ok_bin ho hx hy h1
    · cases hv
  · rename_i op t x ho
    split at hv
    · rename_i vx hx; obtain ⟨v, h1, rfl⟩ := one_some hv; exact ok_un ho hx h1
    · cases hv
  · rename_i x ho
    split at hv
    · rename_i v hx
      split at hv
      · rename_i hn; cases hv; exact ok_nilCheck ho hx hn
      · cases hv
    · cases hv
  · rename_i f xs ys ho
    split at hv
    · rename_i us vs h1 h2; cases hv; exact ok_makeFunc ho h1 h2
    · cases hv
  · rename_i x i ho
    split at hv
    · rename_i vs hx; obtain ⟨v, h1, rfl⟩ := one_some hv; exact ok_extract ho hx h1
    · cases hv
  · rename_i s x f ho
    split at hv
    · rename_i b off hx
      split at hv
      · rename_i k hf; cases hv; exact ok_fieldAddr ho hx hf
      · cases hv
    · cases hv
  · rename_i t x ix ho
    split at hv
    · rename_i vx vi hx hi
      obtain ⟨v, h1, rfl⟩ := one_some hv
      unfold idxAddr at h1
      split at h1
      · split at h1
        · split at h1
          · rename_i sz hs
            split at h1
            · rename_i hc; cases h1; exact ok_indexAddr_slice ho hx hi hs hc.1 hc.2
            · cases h1
          · cases h1
        · split at h1
          · rename_i len sz hs
            split at h1
            · rename_i hc; cases h1; exact ok_indexAddr_array ho hx hi hs hc.1 hc.2
            · cases h1
          · cases h1
        · cases h1
      · cases h1
    · cases hv
  · rename_i t x ho
    split at hv
    · rename_i b off hx
      split at hv
      · rename_i v hl; cases hv; exact ok_load ho hx hl
      · cases hv
    · cases hv
  · rename_i t x y ho
    split at hv
    · rename_i b off v hx hy
      split at hv
      · rename_i h' hs; cases hv; exact ok_store ho hx hy hs
      · cases hv
    · cases hv
  · rename_i t x ho
    split at hv
    · rename_i v hx; cases hv; exact ok_box ho hx
    · cases hv
  · rename_i t ho
    split at hv
    · rename_i v hz; cases hv; exact ok_alloc ho hz
    · cases hv
  · rename_i t x y ho
    split at hv
    · rename_i l c hx hy
      split at hv
      · rename_i v h' hm; cases hv; exact ok_makeSlice ho hx hy hm
      · cases hv
    · cases hv
  · rename_i t parts ho
    split at hv
    · rename_i ps hp
      split at hv
      · rename_i r hb; cases hv; exact ok_build ho hp hb
      · cases hv
    · cases hv
  · rename_i t len parts ho
    split at hv
    · rename_i ps hp
      split at hv
      · rename_i e r hb; cases hv; exact ok_buildSlice ho hp hb
      · cases hv
    · cases hv
  · rename_i t x lo hi mx ho
    split at hv
    · rename_i vx rl rh rm hx h1 h2 h3; obtain ⟨v, h4, rfl⟩ := one_some hv; exact ok_slice ho hx h1 h2 h3 h4
    · cases hv
  · rename_i s d x ho
    split at hv
    · rename_i hsd
      split at hv
      · rename_i vx hx; exact ok_self hsd ho hx hv
      · cases hv
    · split at hv
      · rename_i vx hx
        split at hv
        · rename_i v rs hc; cases hv; exact ok_convert ho hx hc
        · cases hv
      · cases hv
  · rename_i t x f ho
    split at hv
    · rename_i c hx; obtain ⟨v, h1, rfl⟩ := one_some hv; exact ok_field ho hx h1
    · cases hv
  · rename_i t x y ho
    split at hv
    · rename_i vx k i hx hy; obtain ⟨v, h1, rfl⟩ := one_some hv; exact ok_index ho hx hy h1
    · cases hv
  · rename_i t r ho
    split at hv
    · cases hv; exact ok_makeMap ho
    · cases hv
  · rename_i t x y ok ho
    split at hv
    · rename_i vx k hx hy
      split at hv
      · rename_i v rs hl; cases hv; exact ok_lookup ho hx hy hl
      · cases hv
    · cases hv
  · rename_i t x y z ho
    split at hv
    · rename_i vx k v hx hy hz
      split at hv
      · rename_i h' ws hl; cases hv; exact ok_update (.inl ho) hx hy hz hl
      · cases hv
    · cases hv
  · rename_i t x y z ho
    split at hv
    · rename_i vx k v hx hy hz
      split at hv
      · rename_i h' ws hl; cases hv; exact ok_update (.inr ho) hx hy hz hl
      · cases hv
    · cases hv
  · rename_i t x ho
    split at hv
    · rename_i vx hx
      split at hv
      · rename_i it rs hl; cases hv; exact ok_range ho hx hl
      · cases hv
    · cases hv
  · rename_i t x ho
    split at hv
    · rename_i vx hx; obtain ⟨v, h1, rfl⟩ := one_some hv; exact ok_arrAt ho hx h1
    · cases hv
  · rename_i x isS ho
    split at hv
    · cases hv
    · split at hv
      · rename_i b off hx
        split at hv
        · rename_i hz
          have := Nat.eq_of_beq_eq_true hz
          subst this
          exact ok_next ho hx hv
        · cases hv
      · cases hv
  · rename_i x ho
    split at hv
    · rename_i b off hx
      split at hv
      · rename_i hz
        have := Nat.eq_of_beq_eq_true hz
        subst this
        split at hv
        · rename_i v rs hl; cases hv; exact ok_entry ho hx hl
        · cases hv
      · cases hv
    · cases hv
  · rename_i t x ho
    split at hv
    · rename_i vx hx; obtain ⟨v, h1, rfl⟩ := one_some hv; exact ok_makeIface ho hx h1
    · cases hv
  · rename_i c ho
    obtain ⟨callee, args, ts⟩ := c
    split at hv
    · rename_i b hc
      dsimp only at hc hv
      subst hc
      split at hv
      · rename_i vs hx; exact evB_ok ho hx hv
      · cases hv
    · cases hv
  · cases hv

end Go.Vm
