/- The virtual machine's plain operations, all together. -/
import Derived.Test.YtdfihilgbeogbaaGreatV1
import Derived.OrdersIn
import Derived.RangeFuncLeaves
import Derived.RangeFuncRecord
import Derived.Scope
import Derived.Below
import Derived.ChangeSame
set_option linter.unusedVariables false
set_option linter.unusedSimpArgs false
set_option linter.unusedSimpArgs false
set_option linter.unusedVariables false
set_option linter.unusedSimpArgs false
namespace Go.Vm
variable {P : Program} {tm : Tm} {o : Oper} {h : Heap}

def one (h : Heap) : Option V → Option Pr
  | some v => some ⟨v, h, [], []⟩
  | none => none
theorem one_some {h : Heap} {x : Option V} {pr : Pr} (e : one h x = some pr) : ∃ v, x = some v ∧ pr = ⟨v, h, [], []⟩ := by
  cases x with
  | none => cases e
  | some v => cases e; exact ⟨v, rfl, rfl⟩

def idxAddr (P : Program) (t : TypeId) (x ix : V) : Option V := match ix with
  | .int _ i => match x with
    | .slice (some (b, off)) len _ _ => match idxSlice P t with
      | some sz => if 0 ≤ i ∧ i < len then some (.ptr (some (b, off + i.toNat * sz))) else none
      | none => none
    | .ptr (some (b, off)) => match idxArray P t with
      | some (len, sz) => if 0 ≤ i ∧ i < len then some (.ptr (some (b, off + i.toNat * sz))) else none
      | none => none
    | _ => none
  | _ => none

def binW (P : Program) (op : BinOp) (t : TypeId) (x y : V) : Option V := match x with
  | .agg _ => binA P op t x y
  | _ => binV P op t x y

def isConst : Operand → Bool
  | .const _ => true
  | _ => false
def nilsV (P : Program) (op : BinOp) (t : TypeId) (x y : Operand) : Option V := match P.underlying t, isConst x || isConst y, op with
  | some (.interface _), true, .eql => some (.bool true)
  | some (.interface _), true, .neq => some (.bool false)
  | _, _, _ => none
def binN (P : Program) (op : BinOp) (t : TypeId) (x y : Operand) (a b : V) : Option V := match a, b with
  | .nilIface, .nilIface => nilsV P op t x y
  | a, b => binW P op t a b
theorem nils_guard {x y : Operand} (hc : (isConst x || isConst y) = true) (op : BinOp) (t : TypeId) (w : World) : (eqGuard op t x y .nilIface .nilIface).run P w = .ok () w := by
  unfold eqGuard
  cases op <;> first | rfl | (cases x <;> cases y <;> first | rfl | cases hc)
theorem nils_equal {t : TypeId} {m : Array (String × TypeId)} (hu : P.underlying t = some (.interface m)) (w : World) : (Op.equal t .nilIface .nilIface).run P w = .ok true w := by
  show (Op.equalIn (9999 + 1) t .nilIface .nilIface).run P w = _
  rw [Op.equalIn]
  simp only [Sem.run_bind, run_underlying hu, Result.andThen_ok]
  rfl
theorem ok_nils {tm : Tm} {o : Oper} {h : Heap} {op : BinOp} {t t' : TypeId} {x y : Operand} {v : V} (ho : o.op = .binOp op t x y t') (hx : evV tm x = some .nilIface) (hy : evV tm y = some .nilIface) (hv : nilsV P op t x y = some v) : PrimOk P tm o h ⟨v, h, [], []⟩ :=
  PrimOk.pure fun σ w ρ he => by
    have h2 := he x (by simp [ho, Op.operands]) _ hx
    have h3 := he y (by simp [ho, Op.operands]) _ hy
    unfold nilsV at hv
    split at hv
    · rename_i m hu hc
      cases hv
      refine ⟨trivial, ?_⟩
      simp only [execOp, ho, h2.2, h3.2, V.re, Sem.run_bind, nils_guard hc, Result.andThen_ok, binOp, nils_equal hu, Sem.run_pure]
    · rename_i m hu hc
      cases hv
      refine ⟨trivial, ?_⟩
      simp only [execOp, ho, h2.2, h3.2, V.re, Sem.run_bind, nils_guard hc, Result.andThen_ok, binOp, nils_equal hu, Sem.run_pure]
      rfl
    · cases hv
def ifaceV (P : Program) (t : TypeId) (v : V) : Option V := match P.underlying t with
  | some (.interface _) => none
  | some _ => some (.iface t v)
  | none => none
theorem ok_makeIface {P : Program} {tm : Tm} {o : Oper} {h : Heap} {t : TypeId} {x : Operand} {vx v : V} (ho : o.op = .makeInterface t x) (hx : evV tm x = some vx) (hv : ifaceV P t vx = some v) : PrimOk P tm o h ⟨v, h, [], []⟩ :=
  PrimOk.pure fun σ w ρ he => by
    have h1 := he x (by simp [ho, Op.operands]) _ hx
    unfold ifaceV at hv
    split at hv
    · cases hv
    · rename_i d hne hu
      cases hv
      refine ⟨h1.1, ?_⟩
      simp only [execOp, ho, h1.2, Instr.makeInterface, Sem.run_bind, run_underlying hu, Result.andThen_ok, V.re]
      cases d <;> first | exact absurd rfl (hne _) | rfl
    · cases hv
def evB (P : Program) (h : Heap) (b : Builtin) (ts : Array TypeId) (vs : List V) : Option Pr := match b, vs with
  | .len, [x] => match ts[0]? with
    | some t => match lenV P t x h with
      | some (n, rs) => some ⟨.int .i64 n, h, rs, []⟩
      | none => none
    | none => none
  | .cap, [x] => match ts[0]? with
    | some t => match capV P t x with
      | some n => some ⟨.int .i64 n, h, [], []⟩
      | none => none
    | none => none
  | .min, [.int k x, .int _ y] => some ⟨.int k (if y < x then y else x), h, [], []⟩
  | .max, [.int k x, .int _ y] => some ⟨.int k (if y > x then y else x), h, [], []⟩
  | .copy, [d, s] => match ts[0]? with
    | some t => copyV P t d s h
    | none => none
  | .append, [s, x] => match ts.toList with
    | [t, u] => appendV P t u s x h
    | _ => none
  | .delete, [x, k] => match ts[0]? with
    | some t => delV P t h x k
    | none => none
  | _, _ => none

def selfV (P : Program) (s : TypeId) (x : V) (h : Heap) : Option Pr := match P.underlying s with
  | some (.slice e) => match P.underlying e, x with
    | some (.int .u8), .slice (some (b, _)) _ _ _ => match h.get b with
      | some (.cells c ce) => match c.ro with
        | false => some ⟨x, h.set b (.cells c ce), [], [b]⟩
        | true => none
      | _ => none
    | _, _ => none
  | _ => none
theorem ok_self {P : Program} {tm : Tm} {o : Oper} {h : Heap} {s d : TypeId} {x : Operand} {vx : V} {pr : Pr} (hsd : Nat.beq s d = true) (ho : o.op = .convert s d x) (hx : evV tm x = some vx) (hv : selfV P s vx h = some pr) : PrimOk P tm o h pr := by
  obtain rfl := Nat.eq_of_beq_eq_true hsd
  unfold selfV at hv
  split at hv
  · rename_i e hs
    split at hv
    · rename_i b off len cap ex he
      split at hv
      · rename_i c ce hg
        split at hv
        case h_2 => cases hv
        rename_i hro
        cases hv
        refine PrimOk.write hg rfl rfl fun H σ w ρ hev hr hI l hl hB => ?_
        have h1 := hev x (by simp [ho, Op.operands]) _ hx
        obtain ⟨arr, ⟨fz, hfz, ha⟩, hsz, hc⟩ := hB
        have hfz := hfz hro
        have hlt : l.blk < w.heap.size := (Array.getElem?_eq_some_iff.1 ha).1
        have hf : ∃ fz', FzOk arr.size fz' ∧ (w.freeze ⟨l.blk, arr.size, none⟩ 1).heap[l.blk]? = some (.cells arr ce fz') := by
          obtain ⟨lo, hi⟩ := fz
          refine ⟨if lo == hi then (arr.size, arr.size + 1) else (min lo arr.size, max hi (arr.size + 1)), ?_, ?_⟩
          · rcases hfz with hfz | hfz
            · cases hfz; exact .inr (Nat.le_refl _)
            · refine .inr ?_
              split
              · exact Nat.le_refl _
              · simp only at hfz ⊢; omega
          · simp [World.freeze, Array.getElem?_modify, ha]
        obtain ⟨fz', hfz', ha'⟩ := hf
        refine ⟨w.freeze ⟨l.blk, arr.size, none⟩ 1, _, (V.slice (some (b, off)) len cap ex).re σ, by simp [World.freeze], fun k hk => by simp [World.freeze, Array.getElem?_modify, Ne.symm hk], rfl, rfl, rfl, ⟨arr, ⟨fz', fun _ => hfz', ha'⟩, hsz, hc⟩, .inl rfl, ⟨h1.1, rfl⟩, ?_⟩
        simp only [execOp, ho, h1.2, convert, V.re, reA, Ren.b_eq hl]
        simp [run_underlying hs, run_underlying he, markStringish, shape, freeze, Sem.run, World.shape?, ha]
      · cases hv
    · cases hv
  · cases hv

def evP (P : Program) (tm : Tm) (h : Heap) (o : Oper) : Option Pr := match o.op with
  | .move x => one h (evV tm x)
  | .assign x => one h (evV tm x)
  | .pick c a b => match evV tm c with
    | some (.bool true) => one h (evV tm a)
    | some (.bool false) => one h (evV tm b)
    | _ => none
  | .binOp op t x y _ => match evV tm x, evV tm y with
    | some vx, some vy => one h (binN P op t x y vx vy)
    | _, _ => none
  | .unOp op _ x => match evV tm x with
    | some vx => one h (unV op vx)
    | none => none
  | .nilCheck x => match evV tm x with
    | some v => match notNil v with
      | true => some ⟨v, h, [], []⟩
      | false => none
    | none => none
  | .makeFunc (.func f) xs ys => match evVs tm xs.toList, evVs tm ys.toList with
    | some us, some vs => some ⟨.func f us vs, h, [], []⟩
    | _, _ => none
  | .extract x i => match evV tm x with
    | some (.tuple vs) => one h vs[i]?
    | _ => none
  | .fieldAddr s x f => match evV tm x with
    | some (.ptr (some (b, off))) => match fieldOff P s f with
      | some k => some ⟨.ptr (some (b, off + k)), h, [], []⟩
      | none => none
    | _ => none
  | .indexAddr t x ix => match evV tm x, evV tm ix with
    | some vx, some vi => one h (idxAddr P t vx vi)
    | _, _ => none
  | .load t x => match evV tm x with
    | some (.ptr (some (b, off))) => match loadV P t h b off with
      | some v => some ⟨v, h, [b], []⟩
      | none => none
    | _ => none
  | .store t x y => match evV tm x, evV tm y with
    | some (.ptr (some (b, off))), some v => match storeV P t h b off v with
      | some h' => some ⟨undefV, h', [], [b]⟩
      | none => none
    | _, _ => none
  | .box t x => match evV tm x with
    | some v => some ⟨.ptr (some (h.n, 0)), h.push (.cells (Blk.of v.cellsV) t), [], []⟩
    | none => none
  | .alloc t => match zeroV P t with
    | some v => some ⟨.ptr (some (h.n, 0)), h.push (.cells (Blk.of v.cellsV) t), [], []⟩
    | none => none
  | .makeSlice t x y => match evV tm x, evV tm y with
    | some (.int _ l), some (.int _ c) => match makeSliceV P t l c h with
      | some (v, h') => some ⟨v, h', [], []⟩
      | none => none
    | _, _ => none
  | .build t parts => match evParts tm parts.toList with
    | some ps => match builtV P t ps with
      | some r => some ⟨.agg r, h, [], []⟩
      | none => none
    | none => none
  | .buildSlice t len parts => match evParts tm parts.toList with
    | some ps => match builtSliceV P t len ps with
      | some (e, r) => some ⟨.slice (some (h.n, 0)) len len true, h.push (.cells (Blk.of r) e), [], []⟩
      | none => none
    | none => none
  | .slice t x lo hi mx => match evV tm x, evI tm lo, evI tm hi, evI tm mx with
    | some vx, some rl, some rh, some rm => one h (sliceV P t vx (rl.map (·.2)) (rh.map (·.2)) (rm.map (·.2)))
    | _, _, _, _ => none
  | .convert s d x => match Nat.beq s d with
    | true => match evV tm x with
      | some vx => selfV P s vx h
      | none => none
    | false => match evV tm x with
      | some vx => match convV P s d vx h with
        | some (v, rs) => some ⟨v, h, rs, []⟩
        | none => none
      | none => none
  | .field t x f => match evV tm x with
    | some (.agg c) => one h (fieldV P t c f)
    | _ => none
  | .index t x y => match evV tm x, evV tm y with
    | some vx, some (.int _ i) => one h (indexV P t vx i)
    | _, _ => none
  | .makeMap t r => match r with
    | none => some ⟨.map (some h.n), h.push (.map [] 0), [], []⟩
    | some _ => none
  | .lookup t x y ok => match evV tm x, evV tm y with
    | some vx, some k => match lookV P t h vx k ok with
      | some (v, rs) => some ⟨v, h, rs, []⟩
      | none => none
    | _, _ => none
  | .mapUpdate t x y z => match evV tm x, evV tm y, evV tm z with
    | some vx, some k, some v => match updV P t h vx k v with
      | some (h', ws) => some ⟨undefV, h', [], ws⟩
      | none => none
    | _, _, _ => none
  | .insert t x y z => match evV tm x, evV tm y, evV tm z with
    | some vx, some k, some v => match updV P t h vx k v with
      | some (h', ws) => some ⟨undefV, h', [], ws⟩
      | none => none
    | _, _, _ => none
  | .range t x => match evV tm x with
    | some vx => match rangeV P t h vx with
      | some (it, rs) => some ⟨.ptr (some (h.n, 0)), h.push it, rs, []⟩
      | none => none
    | none => none
  | .sliceToArrayPointer t x => match evV tm x with
    | some vx => one h (arrAtV P t vx)
    | none => none
  | .next x isS => match isS with
    | true => none
    | false => match evV tm x with
      | some (.ptr (some (b, off))) => match Nat.beq off 0 with
        | true => nextV h b
        | false => none
      | _ => none
  | .entry x => match evV tm x with
    | some (.ptr (some (b, off))) => match Nat.beq off 0 with
      | true => match entryV h b with
        | some (v, rs) => some ⟨v, h, rs, []⟩
        | none => none
      | false => none
    | _ => none
  | .makeInterface t x => match evV tm x with
    | some vx => one h (ifaceV P t vx)
    | none => none
  | .call c => match c.callee with
    | .builtin b => match evVs tm c.args.toList with
      | some vs => evB P h b c.argTypes vs
      | none => none
    | _ => none
  | _ => none

theorem evB_ok {b : Builtin} {args : Array Operand} {ts : Array TypeId} {vs : List V} {pr : Pr} (ho : o.op = .call { callee := .builtin b, args, argTypes := ts }) (hx : evVs tm args.toList = some vs) (hv : evB P h b ts vs = some pr) : PrimOk P tm o h pr := by
  unfold evB at hv
  split at hv
  · split at hv
    · rename_i t ht
      split at hv
      · rename_i n rs hl; cases hv; exact ok_len ho ht hx hl
      · cases hv
    · cases hv
  · split at hv
    · rename_i t ht
      split at hv
      · rename_i n hl; cases hv; exact ok_cap ho ht hx hl
      · cases hv
    · cases hv
  · cases hv; exact ok_min ho hx
  · cases hv; exact ok_max ho hx
  · split at hv
    · rename_i t ht; exact ok_copy ho ht hx hv
    · cases hv
  · split at hv
    · rename_i t u ht
      have : ts = #[t, u] := by rw [← Array.toArray_toList (xs := ts), ht]
      subst this
      exact ok_append ho hx hv
    · cases hv
  · split at hv
    · rename_i t ht; exact ok_delete ho ht hx hv
    · cases hv
  · cases hv

theorem evP_ok {pr : Pr} (hv : evP P tm h o = some pr) : PrimOk P tm o h pr := by
  unfold evP at hv
  split at hv
  · rename_i x ho; obtain ⟨v, h1, rfl⟩ := one_some hv; exact ok_move (.inl ho) h1
  · rename_i x ho; obtain ⟨v, h1, rfl⟩ := one_some hv; exact ok_move (.inr ho) h1
  · rename_i c a b ho
    split at hv
    · rename_i hc; obtain ⟨v, h1, rfl⟩ := one_some hv; exact ok_pick ho hc h1
    · rename_i hc; obtain ⟨v, h1, rfl⟩ := one_some hv; exact ok_pick ho hc h1
    · cases hv
  · rename_i op t x y t' ho
    split at hv
    · rename_i vx vy hx hy
      obtain ⟨v, h1, rfl⟩ := one_some hv
      unfold binN at h1
      split at h1
      · exact ok_nils ho hx hy h1
      · unfold binW at h1
        split at h1
        · exact ok_binA ho hx hy h1
        · exact ok_bin ho hx hy h1
    · cases hv
  · rename_i op t x ho
    split at hv
    · rename_i vx hx; obtain ⟨v, h1, rfl⟩ := one_some hv; exact ok_un ho hx h1
    · cases hv
  · rename_i x ho
    split at hv
    · rename_i v hx
      split at hv
      · rename_i hn; cases hv; exact ok_nilCheck ho hx hn
      · cases hv
    · cases hv
  · rename_i f xs ys ho
    split at hv
    · rename_i us vs h1 h2; cases hv; exact ok_makeFunc ho h1 h2
    · cases hv
  · rename_i x i ho
    split at hv
    · rename_i vs hx; obtain ⟨v, h1, rfl⟩ := one_some hv; exact ok_extract ho hx h1
    · cases hv
  · rename_i s x f ho
    split at hv
    · rename_i b off hx
      split at hv
      · rename_i k hf; cases hv; exact ok_fieldAddr ho hx hf
      · cases hv
    · cases hv
  · rename_i t x ix ho
    split at hv
    · rename_i vx vi hx hi
      obtain ⟨v, h1, rfl⟩ := one_some hv
      unfold idxAddr at h1
      split at h1
      · split at h1
        · split at h1
          · rename_i sz hs
            split at h1
            · rename_i hc; cases h1; exact ok_indexAddr_slice ho hx hi hs hc.1 hc.2
            · cases h1
          · cases h1
        · split at h1
          · rename_i len sz hs
            split at h1
            · rename_i hc; cases h1; exact ok_indexAddr_array ho hx hi hs hc.1 hc.2
            · cases h1
          · cases h1
        · cases h1
      · cases h1
    · cases hv
  · rename_i t x ho
    split at hv
    · rename_i b off hx
      split at hv
      · rename_i v hl; cases hv; exact ok_load ho hx hl
      · cases hv
    · cases hv
  · rename_i t x y ho
    split at hv
    · rename_i b off v hx hy
      split at hv
      · rename_i h' hs; cases hv; exact ok_store ho hx hy hs
      · cases hv
    · cases hv
  · rename_i t x ho
    split at hv
    · rename_i v hx; cases hv; exact ok_box ho hx
    · cases hv
  · rename_i t ho
    split at hv
    · rename_i v hz; cases hv; exact ok_alloc ho hz
    · cases hv
  · rename_i t x y ho
    split at hv
    · rename_i l c hx hy
      split at hv
      · rename_i v h' hm; cases hv; exact ok_makeSlice ho hx hy hm
      · cases hv
    · cases hv
  · rename_i t parts ho
    split at hv
    · rename_i ps hp
      split at hv
      · rename_i r hb; cases hv; exact ok_build ho hp hb
      · cases hv
    · cases hv
  · rename_i t len parts ho
    split at hv
    · rename_i ps hp
      split at hv
      · rename_i e r hb; cases hv; exact ok_buildSlice ho hp hb
      · cases hv
    · cases hv
  · rename_i t x lo hi mx ho
    split at hv
    · rename_i vx rl rh rm hx h1 h2 h3; obtain ⟨v, h4, rfl⟩ := one_some hv; exact ok_slice ho hx h1 h2 h3 h4
    · cases hv
  · rename_i s d x ho
    split at hv
    · rename_i hsd
      split at hv
      · rename_i vx hx; exact ok_self hsd ho hx hv
      · cases hv
    · split at hv
      · rename_i vx hx
        split at hv
        · rename_i v rs hc; cases hv; exact ok_convert ho hx hc
        · cases hv
      · cases hv
  · rename_i t x f ho
    split at hv
    · rename_i c hx; obtain ⟨v, h1, rfl⟩ := one_some hv; exact ok_field ho hx h1
    · cases hv
  · rename_i t x y ho
    split at hv
    · rename_i vx k i hx hy; obtain ⟨v, h1, rfl⟩ := one_some hv; exact ok_index ho hx hy h1
    · cases hv
  · rename_i t r ho
    split at hv
    · cases hv; exact ok_makeMap ho
    · cases hv
  · rename_i t x y ok ho
    split at hv
    · rename_i vx k hx hy
      split at hv
      · rename_i v rs hl; cases hv; exact ok_lookup ho hx hy hl
      · cases hv
    · cases hv
  · rename_i t x y z ho
    split at hv
    · rename_i vx k v hx hy hz
      split at hv
      · rename_i h' ws hl; cases hv; exact ok_update (.inl ho) hx hy hz hl
      · cases hv
    · cases hv
  · rename_i t x y z ho
    split at hv
    · rename_i vx k v hx hy hz
      split at hv
      · rename_i h' ws hl; cases hv; exact ok_update (.inr ho) hx hy hz hl
      · cases hv
    · cases hv
  · rename_i t x ho
    split at hv
    · rename_i vx hx
      split at hv
      · rename_i it rs hl; cases hv; exact ok_range ho hx hl
      · cases hv
    · cases hv
  · rename_i t x ho
    split at hv
    · rename_i vx hx; obtain ⟨v, h1, rfl⟩ := one_some hv; exact ok_arrAt ho hx h1
    · cases hv
  · rename_i x isS ho
    split at hv
    · cases hv
    · split at hv
      · rename_i b off hx
        split at hv
        · rename_i hz
          have := Nat.eq_of_beq_eq_true hz
          subst this
          exact ok_next ho hx hv
        · cases hv
      · cases hv
  · rename_i x ho
    split at hv
    · rename_i b off hx
      split at hv
      · rename_i hz
        have := Nat.eq_of_beq_eq_true hz
        subst this
        split at hv
        · rename_i v rs hl; cases hv; exact ok_entry ho hx hl
        · cases hv
      · cases hv
    · cases hv
  · rename_i t x ho
    split at hv
    · rename_i vx hx; obtain ⟨v, h1, rfl⟩ := one_some hv; exact ok_makeIface ho hx h1
    · cases hv
  · rename_i c ho
    obtain ⟨callee, args, ts⟩ := c
    split at hv
    · rename_i b hc
      dsimp only at hc hv
      subst hc
      split at hv
      · rename_i vs hx; exact evB_ok ho hx hv
      · cases hv
    · cases hv
  · cases hv

end Go.Vm
set_option linter.unusedVariables false
set_option linter.unusedSimpArgs false
namespace Go.Vm
variable {P : Program}

def FW (r : Option Nat) : Fence := { fn := fun _ => True, depth := none, alive := false, round := r }

abbrev Set' := Nat → Prop
def New (h h' : Heap) : Set' := fun b => h.n ≤ b ∧ b < h'.n
def Old (h : Heap) (W : Set') : Set' := fun b => b < h.n ∧ W b

structure VF (h h' : Heap) (W : Set') : Prop where
  n : h.n ≤ h'.n
  get : ∀ b, b < h.n → ¬ W b → h'.get b = h.get b
structure Pre (P : Program) (h h' : Heap) (R W : Set') (H : HF) (σ : Ren) (w : World) : Prop where
  agree : ∀ b, b < h.n → R b ∨ W b → H b = h.get b
  fresh : ∀ b, New h h' b → σ b = none ∧ H b = none
  inv : Inv P H σ w
structure Step (P : Program) (h h' : Heap) (W : Set') (H H' : HF) (σ σ' : Ren) (w w' : World) : Prop where
  goes : Goes P (New h h') (Old h W) H H' σ σ' w w'
  get : ∀ b, New h h' b ∨ Old h W b → H' b = h'.get b

theorem VF.refl (h : Heap) (W : Set') : VF h h W := ⟨Nat.le_refl _, fun _ _ _ => rfl⟩
theorem VF.trans {h h₁ h₂ : Heap} {W : Set'} (v₁ : VF h h₁ W) (v₂ : VF h₁ h₂ W) : VF h h₂ W :=
  ⟨Nat.le_trans v₁.n v₂.n, fun b hb hw => by rw [v₂.get b (Nat.lt_of_lt_of_le hb v₁.n) hw, v₁.get b hb hw]⟩
theorem VF.mono {h h' : Heap} {W W' : Set'} (v : VF h h' W) (hm : ∀ b, W b → W' b) : VF h h' W' := ⟨v.n, fun b hb hw => v.get b hb fun h => hw (hm b h)⟩
theorem Step.refl {h : Heap} {W : Set'} {H : HF} {σ : Ren} {w : World} (hi : Inv P H σ w) (ha : ∀ b, b < h.n → W b → H b = h.get b) : Step P h h W H H σ σ w w :=
  ⟨Goes.refl hi fun b hb => by unfold New at hb; omega, fun b hb => by
    rcases hb with hb | hb
    · unfold New at hb; omega
    · exact ha b hb.1 hb.2⟩
theorem Pre.fst {h h₁ h₂ : Heap} {R W : Set'} {H : HF} {σ : Ren} {w : World} (p : Pre P h h₂ R W H σ w) (hn : h₁.n ≤ h₂.n) : Pre P h h₁ R W H σ w :=
  ⟨p.agree, fun b hb => p.fresh b ⟨hb.1, Nat.lt_of_lt_of_le hb.2 hn⟩, p.inv⟩
theorem Pre.snd {h h₁ h₂ : Heap} {R W : Set'} {H H₁ : HF} {σ σ₁ : Ren} {w w₁ : World} (p : Pre P h h₂ R W H σ w) (v₁ : VF h h₁ W) (s : Step P h h₁ W H H₁ σ σ₁ w w₁) : Pre P h₁ h₂ R W H₁ σ₁ w₁ where
  agree := fun b hb hr => by
    by_cases hw : New h h₁ b ∨ Old h W b
    · exact s.get b hw
    · have hbn : b < h.n := by
        rcases Nat.lt_or_ge b h.n with h' | h'
        · exact h'
        · exact absurd (.inl ⟨h', hb⟩) hw
      have hnw : ¬ W b := fun h => hw (.inr ⟨hbn, h⟩)
      rw [s.goes.virt b (fun h => hw (.inr h)) (fun h => hw (.inl h)), p.agree b hbn hr, v₁.get b hbn hnw]
  fresh := fun b hb => by
    have hb' : New h h₂ b := ⟨Nat.le_trans v₁.n hb.1, hb.2⟩
    have hn1 : ¬ New h h₁ b := fun h => by have := h.2; have := hb.1; omega
    have hf := p.fresh b hb'
    constructor
    · cases hs : σ₁ b with
      | none => rfl
      | some l =>
        rcases s.goes.dom b l hs with h' | h'
        · rw [hf.1] at h'; cases h'
        · exact absurd h' hn1
    · rw [s.goes.virt b (fun h => by have := h.1; have := hb'.1; omega) hn1]; exact hf.2
  inv := s.goes.inv
theorem Step.trans {h h₁ h₂ : Heap} {W : Set'} {H H₁ H₂ : HF} {σ σ₁ σ₂ : Ren} {w w₁ w₂ : World} {R : Set'} (p : Pre P h h₂ R W H σ w) (v₁ : VF h h₁ W) (v₂ : VF h₁ h₂ W) (s₁ : Step P h h₁ W H H₁ σ σ₁ w w₁) (s₂ : Step P h₁ h₂ W H₁ H₂ σ₁ σ₂ w₁ w₂) :
    Step P h h₂ W H H₂ σ σ₂ w w₂ where
  goes := by
    have n1 := v₁.n
    have n2 := v₂.n
    refine Goes.trans s₁.goes s₂.goes (fun b => ?_) (fun b hb => .inl hb) (fun b hb => ?_) (fun b hb hl => ?_)
    · unfold New; omega
    · rcases Nat.lt_or_ge b h.n with h' | h'
      · exact .inl ⟨h', hb.2⟩
      · have := hb.1; exact .inr ⟨h', by omega⟩
    · obtain ⟨o, ho, _⟩ := hl
      rw [(p.fresh b hb).2] at ho; cases ho
  get := fun b hb => by
    by_cases hw : New h₁ h₂ b ∨ Old h₁ W b
    · exact s₂.get b hw
    · rw [s₂.goes.virt b (fun h => hw (.inr h)) (fun h => hw (.inl h))]
      have hb1 : b < h₁.n := by
        rcases Nat.lt_or_ge b h₁.n with h' | h'
        · exact h'
        · rcases hb with hb | hb
          · exact absurd (.inl ⟨h', hb.2⟩) hw
          · have := hb.1; have := v₁.n; omega
      have hnw : ¬ W b := fun h => hw (.inr ⟨hb1, h⟩)
      rw [v₂.get b hb1 hnw]
      refine s₁.get b ?_
      rcases hb with hb | hb
      · exact .inl ⟨hb.1, hb1⟩
      · exact absurd hb.2 hnw
theorem Pre.mono {h h' : Heap} {R W R' W' : Set'} {H : HF} {σ : Ren} {w : World} (p : Pre P h h' R' W' H σ w) (hr : ∀ b, R b → R' b) (hw : ∀ b, W b → W' b) : Pre P h h' R W H σ w :=
  ⟨fun b hb h => p.agree b hb (h.imp (hr b) (hw b)), p.fresh, p.inv⟩
theorem Step.more {h h' : Heap} {R W W' : Set'} {H H' : HF} {σ σ' : Ren} {w w' : World} (s : Step P h h' W H H' σ σ' w w') (v : VF h h' W) (p : Pre P h h' R W' H σ w) (hm : ∀ b, W b → W' b) : Step P h h' W' H H' σ σ' w w' :=
  ⟨s.goes.more fun b hb => ⟨hb.1, hm b hb.2⟩, fun b hb => by
    by_cases hw : New h h' b ∨ Old h W b
    · exact s.get b hw
    · rcases hb with hb | hb
      · exact absurd (.inl hb) hw
      · have hnw : ¬ W b := fun h => hw (.inr ⟨hb.1, h⟩)
        rw [s.goes.virt b (fun h => hw (.inr h)) (fun h => hw (.inl h)), p.agree b hb.1 (.inr hb.2), v.get b hb.1 hnw]⟩
theorem Step.world {h h' : Heap} {W : Set'} {H H' : HF} {σ σ' : Ren} {w w' w'' : World} (s : Step P h h' W H H' σ σ' w w') (e1 : w''.heap = w'.heap) (e2 : w''.os = w'.os) (e3 : w''.tape = w'.tape) (e4 : w''.output = w'.output) : Step P h h' W H H' σ σ' w w'' :=
  ⟨s.goes.heap e1 e2 e3 e4, s.get⟩

def FnOk (P : Program) (f : FuncId) (args : List V) (h : Heap) (v : V) (h' : Heap) (R W : Set') : Prop :=
  VF h h' W ∧ ∀ H σ w, Pre P h h' R W H σ w → V.onL σ args →
    CallsIn (FW none) 0 P f (V.reL σ args).toArray w fun e w' => ∃ x σ' H', e = .returned x ∧ VRel σ' v x ∧ Step P h h' W H H' σ σ' w w'
def RoundOk (P : Program) (l : Nat) (args : List V) (h : Heap) (v : V) (h' : Heap) (R W : Set') : Prop :=
  VF h h' W ∧ ∀ H σ w, Pre P h h' R W H σ w → V.onL σ args → σ.is l →
    ∃ fn tmps assign body, (Instr.yield (σ.b l) (V.reL σ args).toArray).run P w = .ok (.round (σ.b l) fn tmps assign body) w ∧
      RoundIn (FW none) 0 P (σ.b l) fn tmps assign body w fun e w' => ∃ x σ' H', e = .returned x ∧ VRel σ' v x ∧ Step P h h' W H H' σ σ' w w'
def OpOk (P : Program) (rd : Option Nat) (o : Oper) (tm : Tm) (h : Heap) (v : V) (h' : Heap) (R W : Set') : Prop :=
  VF h h' W ∧ ∀ H σ w a (K : Act → World → Prop) Q, Pre P h h' R W H σ w → EvOn σ tm o a.eval →
    (∀ x σ' H' w', VRel σ' v x → Step P h h' W H H' σ σ' w w' → K (a.put o.dst x) w') → o.wpIn (FW rd) 0 P a w K Q

theorem FnOk.mono {f : FuncId} {args : List V} {h h' : Heap} {v : V} {R W R' W' : Set'} (hf : FnOk P f args h v h' R W) (hr : ∀ b, R b → R' b) (hw : ∀ b, W b → W' b) : FnOk P f args h v h' R' W' :=
  ⟨hf.1.mono hw, fun H σ w p hon => (hf.2 H σ w (p.mono hr hw) hon).mono fun e w' ⟨x, σ', H', h1, h2, h3⟩ => ⟨x, σ', H', h1, h2, h3.more hf.1 p hw⟩⟩
theorem RoundOk.mono {l : Nat} {args : List V} {h h' : Heap} {v : V} {R W R' W' : Set'} (hf : RoundOk P l args h v h' R W) (hr : ∀ b, R b → R' b) (hw : ∀ b, W b → W' b) : RoundOk P l args h v h' R' W' :=
  ⟨hf.1.mono hw, fun H σ w p hon hl => by
    obtain ⟨fn, tmps, assign, body, h1, h2⟩ := hf.2 H σ w (p.mono hr hw) hon hl
    exact ⟨fn, tmps, assign, body, h1, h2.mono fun e w' ⟨x, σ', H', h1, h2, h3⟩ => ⟨x, σ', H', h1, h2, h3.more hf.1 p hw⟩⟩⟩
theorem OpOk.mono {rd : Option Nat} {o : Oper} {tm : Tm} {h h' : Heap} {v : V} {R W R' W' : Set'} (hf : OpOk P rd o tm h v h' R W) (hr : ∀ b, R b → R' b) (hw : ∀ b, W b → W' b) : OpOk P rd o tm h v h' R' W' :=
  ⟨hf.1.mono hw, fun H σ w a K Q p he hK => hf.2 H σ w a K Q (p.mono hr hw) he fun x σ' H' w' h1 h2 => hK x σ' H' w' h1 (h2.more hf.1 p hw)⟩

theorem noDefer_of_evP {tm : Tm} {o : Oper} {h : Heap} {pr : Pr} (hv : evP P tm h o = some pr) : ∀ c, o.op ≠ .defer c := by
  intro c e
  unfold evP at hv
  rw [e] at hv
  cases hv

theorem opOk_prim {rd : Option Nat} {o : Oper} {tm : Tm} {h : Heap} {pr : Pr} (hv : evP P tm h o = some pr) {R W : Set'} (hr : ∀ b, b ∈ pr.r → R b) (hw : ∀ b, b ∈ pr.w → W b) : OpOk P rd o tm h pr.v pr.h R W := by
  obtain ⟨hn, hget, hall, hok⟩ := evP_ok hv
  have hvf : VF h pr.h (· ∈ pr.w) := ⟨hn, hget⟩
  refine ⟨hvf.mono hw, fun H σ w a K Q p he hK => ?_⟩
  obtain ⟨σ', w', H', nx, x, hrun, hnx, hx, hg, hg'⟩ := hok H σ w a.eval he (fun b hb => p.agree b (hall b hb) (hb.imp (hr b) (hw b))) (fun b h1 h2 => p.fresh b ⟨h1, h2⟩) p.inv
  have hs : Step P h pr.h (· ∈ pr.w) H H' σ σ' w w' := by
    refine ⟨hg.more (W' := Old h (· ∈ pr.w)) fun b hb => ⟨hall b (.inr hb), hb⟩, fun b hb => hg' b (hb.imp (fun h => h) fun h => h.2)⟩
  have hK' := hK x σ' H' w' hx (hs.more hvf p hw)
  refine ⟨fun _ _ => trivial, ?_⟩
  rw [Oper.semAt_eq _ _ _ (noDefer_of_evP hv), hrun]
  rcases hnx with rfl | ⟨rfl, rfl⟩
  · exact hK'
  · exact hK'

end Go.Vm
set_option linter.unusedVariables false
set_option linter.unusedSimpArgs false
namespace Go.Vm
variable {P : Program}

structure St where
  h : Heap
  n0 : Nat
  fr : List Nat
  fw : List Nat
def addF (n0 : Nat) : List Nat → List Nat → List Nat
  | [], acc => acc
  | b :: r, acc => match Nat.blt b n0 with
    | true => b :: addF n0 r acc
    | false => addF n0 r acc
theorem mem_addF {n0 b : Nat} : ∀ {l acc : List Nat}, b ∈ addF n0 l acc ↔ (b ∈ l ∧ b < n0) ∨ b ∈ acc
  | [], acc => by simp [addF]
  | c :: r, acc => by
    unfold addF
    split
    · rename_i hb
      have hb := Nat.blt_eq.mp hb
      simp only [List.mem_cons, mem_addF]
      constructor
      · rintro (rfl | ⟨h1, h2⟩ | h3)
        · exact .inl ⟨.inl rfl, hb⟩
        · exact .inl ⟨.inr h1, h2⟩
        · exact .inr h3
      · rintro (⟨rfl | h1, h2⟩ | h3)
        · exact .inl rfl
        · exact .inr (.inl ⟨h1, h2⟩)
        · exact .inr (.inr h3)
    · rename_i hb
      have hb : ¬ c < n0 := fun h => by rw [blt_true h] at hb; cases hb
      simp only [List.mem_cons, mem_addF]
      constructor
      · rintro (⟨h1, h2⟩ | h3)
        · exact .inl ⟨.inr h1, h2⟩
        · exact .inr h3
      · rintro (⟨rfl | h1, h2⟩ | h3)
        · exact absurd h2 hb
        · exact .inl ⟨h1, h2⟩
        · exact .inr h3
def St.add (s : St) (h : Heap) (r w : List Nat) : St := ⟨h, s.n0, addF s.n0 r s.fr, addF s.n0 w s.fw⟩
def St.R (s : St) : Set' := fun b => s.n0 ≤ b ∨ b ∈ s.fr
def St.W (s : St) : Set' := fun b => s.n0 ≤ b ∨ b ∈ s.fw
structure St.le (s t : St) : Prop where
  n0 : t.n0 = s.n0
  fr : ∀ b, b ∈ s.fr → b ∈ t.fr
  fw : ∀ b, b ∈ s.fw → b ∈ t.fw
theorem St.le_refl (s : St) : s.le s := ⟨rfl, fun _ h => h, fun _ h => h⟩
theorem St.le_trans {s t u : St} (h : s.le t) (h' : t.le u) : s.le u := ⟨h'.n0.trans h.n0, fun b hb => h'.fr b (h.fr b hb), fun b hb => h'.fw b (h.fw b hb)⟩
theorem St.le.R {s t : St} (h : s.le t) : ∀ b, s.R b → t.R b := fun b hb => hb.imp (fun e => by rw [h.n0]; exact e) (h.fr b)
theorem St.le.W {s t : St} (h : s.le t) : ∀ b, s.W b → t.W b := fun b hb => hb.imp (fun e => by rw [h.n0]; exact e) (h.fw b)
theorem St.le_add (s : St) (h : Heap) (r w : List Nat) : s.le (s.add h r w) := ⟨rfl, fun b hb => mem_addF.2 (.inr hb), fun b hb => mem_addF.2 (.inr hb)⟩
theorem St.add_R (s : St) (h : Heap) (r w : List Nat) : ∀ b, b ∈ r → (s.add h r w).R b := fun b hb => by
  rcases Nat.lt_or_ge b s.n0 with h' | h'
  · exact .inr (mem_addF.2 (.inl ⟨hb, h'⟩))
  · exact .inl h'
theorem St.add_W (s : St) (h : Heap) (r w : List Nat) : ∀ b, b ∈ w → (s.add h r w).W b := fun b hb => by
  rcases Nat.lt_or_ge b s.n0 with h' | h'
  · exact .inr (mem_addF.2 (.inl ⟨hb, h'⟩))
  · exact .inl h'

inductive Tgt where
  | fn (f : FuncId)
  | yield (l : Nat)
abbrev InvT := Tgt → List V → St → Option (V × St)
structure InvGood (P : Program) (inv : InvT) : Prop where
  le : ∀ t args s v s', inv t args s = some (v, s') → s.le s'
  fn : ∀ f args s v s', inv (.fn f) args s = some (v, s') → FnOk P f args s.h v s'.h s'.R s'.W
  yield : ∀ l args s v s', inv (.yield l) args s = some (v, s') → RoundOk P l args s.h v s'.h s'.R s'.W

def callable (P : Program) (f : FuncId) : Bool := match P.funcs[f]? with
  | some fn => match fn.body with
    | some _ => match fn.name == "runtime.NumGoroutine" with
      | true => false
      | false => true
    | none => false
  | none => false
theorem run_callable {f : FuncId} (h : callable P f = true) (args : Array Value) (w : World) : (callFunc f args).run P w = .ok (.enter f args) w := by
  unfold callable at h
  split at h
  · rename_i fn hf
    split at h
    · rename_i c hb
      split at h
      · cases h
      · rename_i hn
        have hn' : ¬ fn.name = "runtime.NumGoroutine" := fun e => by simp [e] at hn
        simp [callFunc, program, Sem.run, hf, hb, hn']
    · cases h
  · cases h

def methV (P : Program) (t : TypeId) (name : String) : Option FuncId := match P.info? t with
  | some i => match i.methods.find? (·.name == name) with
    | some m => match m.path.toList, m.func with
      | [], some (f, p) => match P.underlying t, p with
        | some (.pointer _), true => some f
        | some (.pointer _), false => none
        | some _, false => some f
        | _, _ => none
      | _, _ => none
    | none => none
  | none => none
theorem run_methV {t : TypeId} {name : String} {f : FuncId} (h : methV P t name = some f) (v : Value) (w : World) (n : Nat) : (method (n + 1) t v name).run P w = .ok (f, v) w := by
  unfold methV at h
  split at h
  · rename_i i hi
    split at h
    · rename_i m hm
      split at h
      · rename_i g p hp hf
        split at h
        · rename_i e hu
          cases h
          simp [method, typeInfo, hi, hm, hp, follow, hf, receiverAt, run_underlying hu, Place.get]
        · cases h
        · rename_i d hnp hu
          cases h
          simp only [method, typeInfo]
          simp [hi, hm, hp, follow, hf, receiverAt, run_underlying hu]
          cases d <;> first | exact absurd rfl (hnp _) | simp [Place.get] | skip
        · cases h
      · cases h
    · cases h
  · cases h
def evOp (P : Program) (inv : InvT) (tm : Tm) (s : St) (o : Oper) : Option (V × St) := match o.op with
  | .call { callee := .value f, args, .. } => match evV tm f with
    | some (.func g xs ys) => match evVs tm args.toList with
      | some vs => match callable P g with
        | true => inv (.fn g) ((xs ++ vs) ++ ys) s
        | false => none
      | none => none
    | some (.yield l) => match evVs tm args.toList with
      | some vs => inv (.yield l) vs s
      | none => none
    | _ => none
  | .call { callee := .invoke r name, args, .. } => match evV tm r with
    | some (.iface t v) => match methV P t name with
      | some g => match evVs tm args.toList with
        | some vs => match callable P g with
          | true => inv (.fn g) (v :: vs) s
          | false => none
        | none => none
      | none => none
    | _ => none
  | _ => match evP P tm s.h o with
    | some pr => some (pr.v, s.add pr.h pr.r pr.w)
    | none => none

theorem reL_append (σ : Ren) (a b : List V) : V.reL σ (a ++ b) = V.reL σ a ++ V.reL σ b := by simp [V.reL_eq]
theorem onL_append {σ : Ren} {a b : List V} (ha : V.onL σ a) (hb : V.onL σ b) : V.onL σ (a ++ b) := by
  rw [V.onL_iff] at *
  intro v hv
  rcases List.mem_append.1 hv with h | h
  · exact ha v h
  · exact hb v h

theorem evOp_ok {inv : InvT} (hi : InvGood P inv) {tm : Tm} {s s' : St} {o : Oper} {v : V} (hv : evOp P inv tm s o = some (v, s')) :
    s.le s' ∧ ∀ rd, OpOk P rd o tm s.h v s'.h s'.R s'.W := by
  unfold evOp at hv
  split at hv
  · rename_i f args ts ho
    have hnd : ∀ c, o.op ≠ .defer c := by intro c e; rw [ho] at e; cases e
    split at hv
    · rename_i g xs ys hf
      split at hv
      · rename_i vs hvs
        split at hv
        · rename_i hc
          have h1 := hi.fn _ _ _ _ _ hv
          refine ⟨hi.le _ _ _ _ _ hv, fun rd => ⟨h1.1, fun H σ w a K Q p he hK => ?_⟩⟩
          have e1 := he f (by simp [ho, Op.operands, Call.operands]) _ hf
          have e2 := evVs_rel (ρ := a.eval) args.toList vs (fun x hx => he x (by simp only [ho, Op.operands, Call.operands, Array.mem_append]; exact .inr (Array.mem_toList_iff.1 hx))) hvs
          have ea : args.map a.eval = (V.reL σ vs).toArray := by rw [← e2.2, ← Array.toList_map, Array.toArray_toList]
          refine ⟨fun _ _ => trivial, ?_⟩
          rw [Oper.semAt_eq _ _ _ hnd]
          have hrun : (execOp a.eval o).run P w = .ok (.enter g (V.reL σ ((xs ++ vs) ++ ys)).toArray) w := by
            simp only [execOp, ho, resolve, e1.2, V.re, Deferred.ofValue, Sem.run_bind, Sem.run_pure, Result.andThen_ok, invoke, ea]
            rw [run_callable hc]
            simp [reL_append]
          rw [hrun]
          refine ⟨fun h => (by cases h), ?_⟩
          refine CallsIn.mono (h1.2 H σ w p (onL_append (onL_append e1.1.1 e2.1) e1.1.2)) ?_
          rintro e w' ⟨x, σ', H', rfl, h2, h3⟩
          exact hK x σ' H' w' h2 h3
        · cases hv
      · cases hv
    · rename_i l hf
      split at hv
      · rename_i vs hvs
        have h1 := hi.yield _ _ _ _ _ hv
        refine ⟨hi.le _ _ _ _ _ hv, fun rd => ⟨h1.1, fun H σ w a K Q p he hK => ?_⟩⟩
        have e1 := he f (by simp [ho, Op.operands, Call.operands]) _ hf
        have e2 := evVs_rel (ρ := a.eval) args.toList vs (fun x hx => he x (by simp only [ho, Op.operands, Call.operands, Array.mem_append]; exact .inr (Array.mem_toList_iff.1 hx))) hvs
        have ea : args.map a.eval = (V.reL σ vs).toArray := by rw [← e2.2, ← Array.toList_map, Array.toArray_toList]
        obtain ⟨fn, tmps, assign, body, h2, h3⟩ := h1.2 H σ w p e2.1 e1.1
        refine ⟨fun _ _ => trivial, ?_⟩
        rw [Oper.semAt_eq _ _ _ hnd]
        have hrun : (execOp a.eval o).run P w = .ok (.round (σ.b l) fn tmps assign body) w := by
          simp only [execOp, ho, resolve, e1.2, V.re, Deferred.ofValue, Sem.run_bind, Sem.run_pure, Result.andThen_ok, invoke, ea]
          simpa using h2
        rw [hrun]
        refine ⟨fun h => (by cases h), ?_⟩
        refine RoundIn.mono h3 ?_
        rintro e w' ⟨x, σ', H', rfl, h2, h3⟩
        exact hK x σ' H' w' h2 h3
      · cases hv
    · cases hv
  · rename_i r name args ts ho
    have hnd : ∀ c, o.op ≠ .defer c := by intro c e; rw [ho] at e; cases e
    split at hv
    · rename_i t u hr
      split at hv
      · rename_i g hg
        split at hv
        · rename_i vs hvs
          split at hv
          · rename_i hc
            have h1 := hi.fn _ _ _ _ _ hv
            refine ⟨hi.le _ _ _ _ _ hv, fun rd => ⟨h1.1, fun H σ w a K Q p he hK => ?_⟩⟩
            have e1 := he r (by simp [ho, Op.operands, Call.operands]) _ hr
            have e2 := evVs_rel (ρ := a.eval) args.toList vs (fun x hx => he x (by simp only [ho, Op.operands, Call.operands, Array.mem_append]; exact .inr (Array.mem_toList_iff.1 hx))) hvs
            have ea : args.map a.eval = (V.reL σ vs).toArray := by rw [← e2.2, ← Array.toList_map, Array.toArray_toList]
            refine ⟨fun _ _ => trivial, ?_⟩
            rw [Oper.semAt_eq _ _ _ hnd]
            have hrun : (execOp a.eval o).run P w = .ok (.enter g (V.reL σ (u :: vs)).toArray) w := by
              simp only [execOp, ho, resolve, e1.2, V.re, Sem.run_bind, Sem.run_pure, Result.andThen_ok, invoke, ea]
              have hm := run_methV hg (u.re σ) w (P.types.size + Made.depth - 1)
              have h0 : 0 < Made.depth := by decide
              have hd : P.types.size + Made.depth - 1 + 1 = P.types.size + Made.depth := by omega
              rw [hd] at hm
              have ex : (#[(V.iface t u).re σ] ++ (V.reL σ vs).toArray).extract 1 (#[(V.iface t u).re σ] ++ (V.reL σ vs).toArray).size = (V.reL σ vs).toArray := by simp
              have e0 : (#[(V.iface t u).re σ] ++ (V.reL σ vs).toArray)[0]? = some (.iface t (u.re σ)) := by simp [V.re]
              have hp : (program).run P w = .ok P w := rfl
              simp only [V.re] at ex e0
              simp only [e0, ex, callMethod, Sem.run_bind, hp, Result.andThen_ok, hm, run_callable hc]
              simp [V.reL]
            rw [hrun]
            refine ⟨fun h => (by cases h), ?_⟩
            refine CallsIn.mono (h1.2 H σ w p ⟨e1.1, e2.1⟩) ?_
            rintro e w' ⟨x, σ', H', rfl, h2, h3⟩
            exact hK x σ' H' w' h2 h3
          · cases hv
        · cases hv
      · cases hv
    · cases hv
  · split at hv
    · rename_i pr hp
      cases hv
      exact ⟨s.le_add _ _ _, fun rd => opOk_prim hp (s.add_R _ _ _) (s.add_W _ _ _)⟩
    · cases hv

def wantV (ops : List Oper) (tm : Tm) (o : Oper) : Option Bool := match o.guard with
  | none => some true
  | some (j, want) => match ops[j]? with
    | some g => match g.dst with
      | some t => match tm.get t with
        | some (.bool b) => some (b == want)
        | some (.raw _) => none
        | some _ => some false
        | none => none
      | none => some false
    | none => some false
theorem wantV_ok {opsA : Array Oper} {tm : Tm} {o : Oper} {b : Bool} {arr : Array Value} {σ : Ren} (hv : wantV opsA.toList tm o = some b)
    (ht : ∀ j want g t u, o.guard = some (j, want) → opsA[j]? = some g → g.dst = some t → tm.get t = some u → VRel σ u (arr.getD t undef)) : Region.wanted o (yielded opsA arr) = b := by
  unfold wantV at hv
  unfold Region.wanted
  split at hv
  · rename_i hg; cases hv; simp [hg]
  · rename_i j want hg
    simp only [hg]
    split at hv
    · rename_i g hgj
      have hgj : opsA[j]? = some g := by simpa using hgj
      split at hv
      · rename_i t hd
        have key : ∀ u, tm.get t = some u → (∀ x, u ≠ .raw x) → yielded opsA arr j = match u with | .bool c => some c | _ => none := by
          intro u hu hraw
          have hr := ht j want g t u hg hgj hd hu
          have hy : yielded opsA arr j = match arr.getD t undef with | .bool c => some c | _ => none := by
            unfold yielded
            simp only [hgj, Option.bind_some, hd]
            simp only [Array.getD_eq_getD_getElem?]
            cases arr[t]? with
            | none => simp [undef]
            | some y => cases y <;> rfl
          rw [hy, hr.2]
          cases u with
          | slice a n c ex => cases a <;> rfl
          | raw x => exact absurd rfl (hraw x)
          | _ => rfl
        split at hv
        · rename_i c hu
          cases hv
          rw [key _ hu (fun x => by simp)]
          cases c <;> cases want <;> rfl
        · cases hv
        · rename_i u hnb hnr hu
          cases hv
          rw [key _ hu (fun x e => hnr x e)]
          cases u <;> first | rfl | exact absurd rfl (hnb _)
        · cases hv
      · rename_i hd
        cases hv
        simp [yielded, hgj, hd]
    · rename_i hgj
      cases hv
      have hgj : opsA[j]? = none := by simpa using hgj
      simp [yielded, hgj]

def evOps (P : Program) (inv : InvT) (ops : List Oper) : List Oper → Tm → St → Option (Tm × St)
  | [], tm, s => some (tm, s)
  | o :: r, tm, s => match wantV ops tm o with
    | some true => match evOp P inv tm s o with
      | some (v, s') => evOps P inv ops r (tm.put o.dst v) s'
      | none => none
    | some false => evOps P inv ops r (tm.put o.dst undefV) s
    | none => none

theorem evOps_ok {inv : InvT} (hi : InvGood P inv) (opsA : Array Oper) : ∀ (l : List Oper) (k : Nat) (tm tm' : Tm) (s s' : St), opsA.toList.drop k = l → evOps P inv opsA.toList l tm s = some (tm', s') →
    s.le s' ∧ VF s.h s'.h s'.W ∧ ∀ rd H σ w a Q, Pre P s.h s'.h s'.R s'.W H σ w → TRel σ tm a.tmps →
      (∀ σ' H' a' w', a'.defers = a.defers → TRel σ' tm' a'.tmps → Step P s.h s'.h s'.W H H' σ σ' w w' → Q .normal a' w') → wpOpsIn (FW rd) 0 P opsA Q (List.range' k l.length) a w
  | [], k, tm, tm', s, s', hk, hv => by
    cases hv
    refine ⟨St.le_refl _, VF.refl _ _, fun rd H σ w a Q p ht hQ => ?_⟩
    exact hQ σ H a w rfl ht (Step.refl p.inv fun b hb hw => p.agree b hb (.inr hw))
  | o :: r, k, tm, tm', s, s', hk, hv => by
    have hlt : k < opsA.toList.length := by
      rcases Nat.lt_or_ge k opsA.toList.length with h | h
      · exact h
      · rw [List.drop_eq_nil_of_le h] at hk; cases hk
    have hdrop := List.drop_eq_getElem_cons hlt
    rw [hk] at hdrop
    have ho : opsA[k]? = some o := by
      have : o = opsA.toList[k] := (List.cons.inj hdrop).1
      rw [this]; simp at hlt; simp [hlt]
    have hk' : opsA.toList.drop (k + 1) = r := (List.cons.inj hdrop).2.symm
    unfold evOps at hv
    split at hv
    · rename_i hw
      split at hv
      · rename_i v s1 h1
        obtain ⟨l1, ok1⟩ := evOp_ok hi h1
        obtain ⟨l2, v2, ih⟩ := evOps_ok hi opsA r (k + 1) _ _ _ _ hk' hv
        have vf1 : VF s.h s1.h s'.W := (ok1 none).1.mono l2.W
        refine ⟨St.le_trans l1 l2, vf1.trans v2, fun rd H σ w a Q p ht hQ => ?_⟩
        simp only [List.length_cons, List.range'_succ, wpOpsIn, ho]
        have hwant : Region.wanted o (yielded opsA a.tmps) = true := wantV_ok hw (fun j want g t u _ _ _ hu => ht.2 t u hu)
        rw [if_pos hwant]
        refine ((ok1 rd).mono l2.R l2.W).2 H σ w a _ Q (p.fst v2.n) (by cases a; exact ht.ev _ o) fun x σ' H' w' hx hs => ?_
        refine ih rd H' σ' w' _ Q (p.snd vf1 hs) ((ht.le hs.goes.le).put o.dst hx a.defers) fun σ'' H'' a' w'' hd ht' hs' => ?_
        refine hQ σ'' H'' a' w'' (hd.trans (by cases o.dst <;> rfl)) ht' (Step.trans p vf1 v2 hs hs')
      · cases hv
    · rename_i hw
      obtain ⟨l2, v2, ih⟩ := evOps_ok hi opsA r (k + 1) _ _ _ _ hk' hv
      refine ⟨l2, v2, fun rd H σ w a Q p ht hQ => ?_⟩
      simp only [List.length_cons, List.range'_succ, wpOpsIn, ho]
      have hwant : Region.wanted o (yielded opsA a.tmps) = false := wantV_ok hw (fun j want g t u _ _ _ hu => ht.2 t u hu)
      rw [if_neg (by rw [hwant]; simp)]
      refine ⟨fun _ _ => trivial, ?_⟩
      refine ih rd H σ w _ Q p (ht.put o.dst ⟨undefV_on _, (undefV_re σ).symm⟩ a.defers) fun σ'' H'' a' w'' hd ht' hs' => ?_
      exact hQ σ'' H'' a' w'' (hd.trans (by cases o.dst <;> rfl)) ht' hs'
    · cases hv

end Go.Vm
set_option linter.unusedVariables false
set_option linter.unusedSimpArgs false
namespace Go.Vm
variable {P : Program}

theorem last_writer {X α : Type} {m : Nat} {D : Nat → Prop} {Wt : Nat → X → Prop} {x : X} {j : Nat} (hj : j ≤ m) {val : Nat → α} (G : α → Prop)
    (frame : ∀ i, i < m → ¬ Wt i x → val (i + 1) = val i)
    (ord1 : ∀ i, i < j → Wt i x → D i) (ord2 : ∀ i, i < m → j < i → Wt i x → ¬ D i) (hDj : j < m → ¬ D j)
    (h0 : (∀ i, i < m → D i → ¬ Wt i x) → G (val 0))
    (h1 : ∀ i, i < m → D i → Wt i x → (∀ i', i' < m → D i' → i < i' → ¬ Wt i' x) → G (val (i + 1))) : G (val j) := by
  have key : ∀ k, k ≤ j → (∀ i, k ≤ i → i < j → ¬ Wt i x) → G (val j) ∨ val j = val k := by
    intro k hk hn
    right
    obtain ⟨d, rfl⟩ := Nat.exists_eq_add_of_le hk
    clear hk
    have : ∀ d', d' ≤ d → val (k + d') = val k := by
      intro d'
      induction d' with
      | zero => intro _; rfl
      | succ d' ih => intro h; rw [← ih (by omega), ← Nat.add_assoc]; exact frame (k + d') (by omega) (hn _ (by omega) (by omega))
    exact this d (Nat.le_refl _)
  have main : ∀ k, k ≤ j → (∀ i, k ≤ i → i < j → ¬ Wt i x) → G (val j) := by
    intro k
    induction k with
    | zero =>
      intro hk hn
      rcases key 0 hk hn with h | h
      · exact h
      · rw [h]
        refine h0 fun i hi hD hw => ?_
        rcases Nat.lt_trichotomy i j with h' | h' | h'
        · exact hn i (Nat.zero_le _) h' hw
        · subst h'; exact hDj hi hD
        · exact ord2 i hi h' hw hD
    | succ k ih =>
      intro hk hn
      by_cases hw : Wt k x
      · rcases key (k + 1) hk hn with h | h
        · exact h
        · rw [h]
          refine h1 k (by omega) (ord1 k (by omega) hw) hw fun i' hi' hD' hlt hw' => ?_
          rcases Nat.lt_trichotomy i' j with h' | h' | h'
          · exact hn i' (by omega) h' hw'
          · subst h'; exact hDj hi' hD'
          · exact ord2 i' hi' h' hw' hD'
      · refine ih (by omega) fun i hi hlt => ?_
        rcases Nat.lt_or_ge i (k + 1) with h' | h'
        · have : i = k := by omega
          subst this; exact hw
        · exact hn i h' hlt
  exact main j (Nat.le_refl _) fun i h1 h2 => by omega

def looks (ops : List Oper) (o : Oper) : List Tmp :=
  (o.op.operands.toList.filterMap fun | .tmp t => some t | _ => none) ++
  (match o.guard with
   | some (g, _) => match ops[g]? with
     | some q => q.dst.toList
     | none => []
   | none => [])

def Closed (ops : List Oper) (D : Nat → Prop) : Prop := ∀ k o, ops[k]? = some o → D k → ∀ e ∈ o.after, Region.binds .any e = true → D e.on
def Bef (ops : List Oper) (i j : Nat) : Prop := ∀ D, Closed ops D → D j → D i

structure Run (P : Program) (ops : List Oper) (X : Nat → Prop) (rd : Option Nat) (opsA : Array Oper) (hs : Nat → Heap) (tms : Nat → Tm) (vs : Nat → V) (R W : Nat → Set') : Prop where
  step : ∀ i o, opsA[i]? = some o → tms (i + 1) = (tms i).put o.dst (vs i) ∧ VF (hs i) (hs (i + 1)) (W i) ∧
    ((wantV ops (tms i) o = some true ∧ (¬ X i → OpOk P rd o (tms i) (hs i) (vs i) (hs (i + 1)) (R i) (W i))) ∨
     (wantV ops (tms i) o = some false ∧ vs i = undefV ∧ hs (i + 1) = hs i ∧ (∀ b, ¬ W i b)))
  edge : ∀ i o, opsA[i]? = some o → ∀ e ∈ o.after, Region.binds .any e = true → e.on < i
  apartT : ∀ i j oi oj, i < j → opsA[i]? = some oi → opsA[j]? = some oj → Bef opsA.toList i j ∨ ((∀ t, oi.dst = some t → t ∉ looks ops oj ∧ oj.dst ≠ some t) ∧ (∀ t, oj.dst = some t → t ∉ looks ops oi))
  apartH : ∀ i j, i < j → j < opsA.size → Bef opsA.toList i j ∨ ((∀ b, (b < (hs i).n ∧ W i b) ∨ New (hs i) (hs (i + 1)) b → ¬ (b < (hs j).n ∧ (R j b ∨ W j b))) ∧ (∀ b, b < (hs j).n ∧ W j b → ¬ (b < (hs i).n ∧ (R i b ∨ W i b))))

section
variable {ops : List Oper} {X : Nat → Prop} {rd : Option Nat} {opsA : Array Oper} {hs : Nat → Heap} {tms : Nat → Tm} {vs : Nat → V} {R W : Nat → Set'}

def WtB (hs : Nat → Heap) (W : Nat → Set') (i : Nat) (b : Nat) : Prop := (b < (hs i).n ∧ W i b) ∨ New (hs i) (hs (i + 1)) b
def WtT (opsA : Array Oper) (i : Nat) (t : Tmp) : Prop := ∃ o, opsA[i]? = some o ∧ o.dst = some t
def ND (m : Nat) (hs : Nat → Heap) (D : Nat → Prop) : Set' := fun b => ∃ i, i < m ∧ D i ∧ New (hs i) (hs (i + 1)) b
def WD (m : Nat) (hs : Nat → Heap) (W : Nat → Set') (D : Nat → Prop) : Set' := fun b => b < (hs 0).n ∧ ∃ i, i < m ∧ D i ∧ W i b

theorem Run.get (r : Run P ops X rd opsA hs tms vs R W) {i : Nat} (hi : i < opsA.size) : ∃ o, opsA[i]? = some o := ⟨_, Array.getElem?_eq_getElem hi⟩
theorem Run.n_mono (r : Run P ops X rd opsA hs tms vs R W) {i j : Nat} (h : i ≤ j) (hj : j ≤ opsA.size) : (hs i).n ≤ (hs j).n := by
  obtain ⟨d, rfl⟩ := Nat.exists_eq_add_of_le h
  clear h
  induction d with
  | zero => exact Nat.le_refl _
  | succ d ih =>
    obtain ⟨o, ho⟩ := r.get (i := i + d) (by omega)
    exact Nat.le_trans (ih (by omega)) (r.step _ o ho).2.1.n
theorem Run.vf (r : Run P ops X rd opsA hs tms vs R W) {i : Nat} (hi : i < opsA.size) : VF (hs i) (hs (i + 1)) (W i) := by
  obtain ⟨o, ho⟩ := r.get hi; exact (r.step i o ho).2.1
theorem Run.frameB (r : Run P ops X rd opsA hs tms vs R W) {i b : Nat} (hi : i < opsA.size) (hw : ¬ WtB hs W i b) : (hs (i + 1)).get b = (hs i).get b := by
  have hv := r.vf hi
  rcases Nat.lt_or_ge b (hs i).n with h | h
  · exact hv.get b h fun hh => hw (.inl ⟨h, hh⟩)
  · rw [Heap.get_ge h]
    rcases Nat.lt_or_ge b (hs (i + 1)).n with h' | h'
    · exact absurd (.inr ⟨h, h'⟩) hw
    · exact Heap.get_ge h'
theorem Run.frameT (r : Run P ops X rd opsA hs tms vs R W) {i : Nat} {t : Tmp} (hi : i < opsA.size) (hw : ¬ WtT opsA i t) : (tms (i + 1)).get t = (tms i).get t := by
  obtain ⟨o, ho⟩ := r.get hi
  rw [(r.step i o ho).1]
  cases hd : o.dst with
  | none => rfl
  | some d =>
    refine Tm.get_set_ne _ _ _ _ fun e => hw ⟨o, ho, by rw [hd, e]⟩
theorem Run.made (r : Run P ops X rd opsA hs tms vs R W) {j b : Nat} (hj : j ≤ opsA.size) (h0 : (hs 0).n ≤ b) (hb : b < (hs j).n) : ∃ i, i < j ∧ New (hs i) (hs (i + 1)) b := by
  induction j with
  | zero => omega
  | succ j ih =>
    rcases Nat.lt_or_ge b (hs j).n with h | h
    · obtain ⟨i, h1, h2⟩ := ih (by omega) h
      exact ⟨i, by omega, h2⟩
    · exact ⟨j, by omega, h, hb⟩

structure RInv (P : Program) (opsA : Array Oper) (hs : Nat → Heap) (tms : Nat → Tm) (W : Nat → Set') (H0 : HF) (σ0 : Ren) (w0 : World) (arr0 : Array Value) (ds : List Deferred) (D : Nat → Prop) (σ : Ren) (H : HF) (a : Act) (w : World) : Prop where
  closed : Closed opsA.toList D
  goes : Goes P (ND opsA.size hs D) (WD opsA.size hs W D) H0 H σ0 σ w0 w
  h0 : ∀ b, (∀ i, i < opsA.size → D i → ¬ WtB hs W i b) → H b = H0 b
  h1 : ∀ b i, i < opsA.size → D i → WtB hs W i b → (∀ i', i' < opsA.size → D i' → i < i' → ¬ WtB hs W i' b) → H b = (hs (i + 1)).get b
  size : a.tmps.size = (tms 0).n
  t0 : ∀ t, (∀ i, i < opsA.size → D i → ¬ WtT opsA i t) → ∀ u, (tms 0).get t = some u → VRel σ u (a.tmps.getD t undef)
  t1 : ∀ t i, i < opsA.size → D i → WtT opsA i t → (∀ i', i' < opsA.size → D i' → i < i' → ¬ WtT opsA i' t) → ∀ u, (tms (i + 1)).get t = some u → VRel σ u (a.tmps.getD t undef)
  defers : a.defers = ds

variable {H0 : HF} {σ0 : Ren} {w0 : World} {arr0 : Array Value} {ds : List Deferred} {D : Nat → Prop} {σ : Ren} {H : HF} {a : Act} {w : World}

theorem before_done (hc : Closed opsA.toList D) {j : Nat} (hready : ∀ o, opsA[j]? = some o → ∀ e ∈ o.after, Region.binds .any e = true → D e.on) {i : Nat} (hb : Bef opsA.toList i j) (hne : i ≠ j) : D i := by
  have := hb (fun k => D k ∨ k = j) (fun k o ho hk e he hbi => by
    have ho' : opsA[k]? = some o := by simpa using ho
    rcases hk with hk | rfl
    · exact .inl (hc k o ho hk e he hbi)
    · exact .inl (hready o ho' e he hbi)) (.inr rfl)
  exact this.resolve_right hne

theorem RInv.blocks (r : Run P ops X rd opsA hs tms vs R W) (i : RInv P opsA hs tms W H0 σ0 w0 arr0 ds D σ H a w) {Rt Wt' : Set'} (p0 : Pre P (hs 0) (hs opsA.size) Rt Wt' H0 σ0 w0)
    (hRW : ∀ k b, k < opsA.size → b < (hs 0).n → R k b ∨ W k b → Rt b ∨ Wt' b) {j : Nat} (hj : j ≤ opsA.size) (hjD : j < opsA.size → ¬ D j)
    (hready : ∀ o, opsA[j]? = some o → ∀ e ∈ o.after, Region.binds .any e = true → D e.on) (hall : j = opsA.size → ∀ k, k < opsA.size → D k)
    {b : Nat} (hb : b < (hs j).n) (hR : (j < opsA.size → R j b ∨ W j b) ∧ (j = opsA.size → b < (hs 0).n → Rt b ∨ Wt' b)) : H b = (hs j).get b := by
  refine last_writer (D := D) (Wt := WtB hs W) (x := b) (m := opsA.size) hj (val := fun k => (hs k).get b) (fun y => H b = y) (fun k hk hw => r.frameB hk hw) ?_ ?_ hjD ?_ ?_
  · intro k hk hw
    rcases Nat.lt_or_ge j opsA.size with h | h
    · rcases r.apartH k j hk h with h' | h'
      · exact before_done i.closed hready h' (by omega)
      · exact absurd ⟨hb, hR.1 h⟩ (h'.1 b hw)
    · exact hall (by omega) k (by omega)
  · intro k hk hjk hw hD
    rcases r.apartH j k hjk hk with h' | h'
    · exact hjD (by omega) (h' D i.closed hD)
    · rcases hw with hw | hw
      · exact h'.2 b hw ⟨hb, hR.1 (by omega)⟩
      · have := r.n_mono (i := j) (j := k) (by omega) (by omega)
        have := hw.1; omega
  · intro hn
    rw [i.h0 b hn]
    rcases Nat.lt_or_ge b (hs 0).n with h | h
    · rcases Nat.lt_or_ge j opsA.size with h' | h'
      · exact p0.agree b h (hRW j b h' h (hR.1 h'))
      · exact p0.agree b h (hR.2 (by omega) h)
    · rw [Heap.get_ge h]
      exact (p0.fresh b ⟨h, Nat.lt_of_lt_of_le hb (r.n_mono hj (Nat.le_refl _))⟩).2
  · intro k hk hD hw hn
    exact i.h1 b k hk hD hw hn

theorem RInv.temps (r : Run P ops X rd opsA hs tms vs R W) (i : RInv P opsA hs tms W H0 σ0 w0 arr0 ds D σ H a w) {j : Nat} (hj : j ≤ opsA.size) (hjD : j < opsA.size → ¬ D j)
    (hready : ∀ o, opsA[j]? = some o → ∀ e ∈ o.after, Region.binds .any e = true → D e.on) (hall : j = opsA.size → ∀ k, k < opsA.size → D k)
    {t : Tmp} (ht : ∀ o, opsA[j]? = some o → t ∈ looks ops o) {u : V} (hu : (tms j).get t = some u) : VRel σ u (a.tmps.getD t undef) := by
  refine last_writer (D := D) (Wt := WtT opsA) (x := t) (m := opsA.size) hj (val := fun k => (tms k).get t) (fun y => ∀ u, y = some u → VRel σ u (a.tmps.getD t undef)) (fun k hk hw => r.frameT hk hw) ?_ ?_ hjD ?_ ?_ u hu
  · rintro k hk ⟨ok, hok, hdk⟩
    rcases Nat.lt_or_ge j opsA.size with h | h
    · obtain ⟨oj, hoj⟩ := r.get h
      rcases r.apartT k j ok oj hk hok hoj with h' | h'
      · exact before_done i.closed hready h' (by omega)
      · exact absurd (ht oj hoj) (h'.1 t hdk).1
    · exact hall (by omega) k (by omega)
  · rintro k hk hjk ⟨ok, hok, hdk⟩ hD
    obtain ⟨oj, hoj⟩ := r.get (i := j) (by omega)
    rcases r.apartT j k oj ok hjk hoj hok with h' | h'
    · exact hjD (by omega) (h' D i.closed hD)
    · exact h'.2 t hdk (ht oj hoj)
  · intro hn u hu; exact i.t0 t hn u hu
  · intro k hk hD hw hn u hu; exact i.t1 t k hk hD hw hn u hu

theorem RInv.next (r : Run P ops X rd opsA hs tms vs R W) (i : RInv P opsA hs tms W H0 σ0 w0 arr0 ds D σ H a w) {Rt Wt' : Set'} (p0 : Pre P (hs 0) (hs opsA.size) Rt Wt' H0 σ0 w0)
    {j : Nat} {o : Oper} (ho : opsA[j]? = some o) (hjD : ¬ D j) (hready : ∀ e ∈ o.after, Region.binds .any e = true → D e.on)
    {σ' : Ren} {H' : HF} {w' : World} {x : Value} (hs' : Step P (hs j) (hs (j + 1)) (W j) H H' σ σ' w w') (hx : VRel σ' (vs j) x)
    {D' : Nat → Prop} (hD' : ∀ k, D' k ↔ D k ∨ k = j) : RInv P opsA hs tms W H0 σ0 w0 arr0 ds D' σ' H' (a.put o.dst x) w' := by
  have hj : j < opsA.size := (Array.getElem?_eq_some_iff.1 ho).1
  have hready' : ∀ o', opsA[j]? = some o' → ∀ e ∈ o'.after, Region.binds .any e = true → D e.on := fun o' h => by rw [ho] at h; cases h; exact hready
  have njn := r.n_mono (i := 0) (j := j) (Nat.zero_le _) (by omega)
  have njm := r.n_mono (i := j + 1) (j := opsA.size) (by omega) (Nat.le_refl _)
  have later : ∀ k b, k < opsA.size → D k → WtB hs W k b → WtB hs W j b → k < j := by
    intro k b hk hDk hwk hwj
    rcases Nat.lt_trichotomy k j with h | h | h
    · exact h
    · subst h; exact absurd hDk hjD
    · exfalso
      have hle := r.n_mono (i := j + 1) (j := k) (by omega) (by omega)
      have hlt : b < (hs (j + 1)).n := by
        rcases hwj with h' | h'
        · exact Nat.lt_of_lt_of_le h'.1 (r.vf hj).n
        · exact h'.2
      rcases r.apartH j k h hk with h' | h'
      · exact hjD (h' D i.closed hDk)
      · rcases hwk with h2 | h2
        · exact h'.1 b hwj ⟨h2.1, .inr h2.2⟩
        · have := h2.1; omega
  have laterT : ∀ k t, k < opsA.size → D k → WtT opsA k t → WtT opsA j t → k < j := by
    rintro k t hk hDk ⟨ok, hok, hdk⟩ ⟨oj, hoj, hdj⟩
    rcases Nat.lt_trichotomy k j with h | h | h
    · exact h
    · subst h; exact absurd hDk hjD
    · exfalso
      rcases r.apartT j k oj ok h hoj hok with h' | h'
      · exact hjD (h' D i.closed hDk)
      · exact (h'.1 t hdj).2 hdk
  have hput : ∀ t, ¬ WtT opsA j t → (a.put o.dst x).tmps.getD t undef = a.tmps.getD t undef := by
    intro t ht
    cases hd : o.dst with
    | none => rfl
    | some d =>
      have hne : d ≠ t := fun e => ht ⟨o, ho, by rw [hd, e]⟩
      simp [Act.put, Array.getD_eq_getD_getElem?, Array.getElem?_setIfInBounds_ne hne]
  refine ⟨?_, ?_, ?_, ?_, ?_, ?_, ?_, ?_⟩
  · intro k ok hok hk e he hb
    rcases (hD' k).1 hk with h | rfl
    · exact (hD' _).2 (.inl (i.closed k ok hok h e he hb))
    · have hok' : opsA[k]? = some ok := by simpa using hok
      exact (hD' _).2 (.inl (hready' ok hok' e he hb))
  · refine Goes.trans i.goes hs'.goes (fun b => ?_) (fun b hb => .inl ⟨hb.1, let ⟨k, h1, h2, h3⟩ := hb.2; ⟨k, h1, (hD' k).2 (.inl h2), h3⟩⟩) (fun b hb => ?_) (fun b hb hl => ?_)
    · constructor
      · rintro ⟨k, h1, h2, h3⟩
        rcases (hD' k).1 h2 with h | rfl
        · exact .inl ⟨k, h1, h, h3⟩
        · exact .inr h3
      · rintro (⟨k, h1, h2, h3⟩ | h)
        · exact ⟨k, h1, (hD' k).2 (.inl h2), h3⟩
        · exact ⟨j, hj, (hD' j).2 (.inr rfl), h⟩
    · rcases Nat.lt_or_ge b (hs 0).n with h | h
      · exact .inl ⟨h, j, hj, (hD' j).2 (.inr rfl), hb.2⟩
      · obtain ⟨k, hk, hkn⟩ := r.made (by omega) h hb.1
        refine .inr ⟨k, by omega, (hD' k).2 (.inl ?_), hkn⟩
        rcases r.apartH k j hk hj with h' | h'
        · exact before_done i.closed hready' h' (by omega)
        · exact absurd ⟨hb.1, .inr hb.2⟩ (h'.1 b (.inr hkn))
    · obtain ⟨k, h1, h2, h3⟩ := hb
      obtain ⟨ob, hob, _⟩ := hl
      have hk0 := r.n_mono (i := 0) (j := k) (Nat.zero_le _) (by omega)
      have hkm := r.n_mono (i := k + 1) (j := opsA.size) (by omega) (Nat.le_refl _)
      rw [(p0.fresh b ⟨Nat.le_trans hk0 h3.1, Nat.lt_of_lt_of_le h3.2 hkm⟩).2] at hob
      cases hob
  · intro b hn
    have hnj : ¬ WtB hs W j b := hn j hj ((hD' j).2 (.inr rfl))
    rw [hs'.goes.virt b (fun h => hnj (.inl h)) (fun h => hnj (.inr h))]
    exact i.h0 b fun k hk hDk => hn k hk ((hD' k).2 (.inl hDk))
  · intro b k hk hDk hw hn
    by_cases hwj : WtB hs W j b
    · have hkj : k = j := by
        rcases (hD' k).1 hDk with h | h
        · exact absurd hwj (hn j hj ((hD' j).2 (.inr rfl)) (later k b hk h hw hwj))
        · exact h
      subst hkj
      exact hs'.get b (hwj.elim .inr .inl)
    · rw [hs'.goes.virt b (fun h => hwj (.inl h)) (fun h => hwj (.inr h))]
      have hDk' : D k := by
        rcases (hD' k).1 hDk with h | rfl
        · exact h
        · exact absurd hw hwj
      exact i.h1 b k hk hDk' hw fun k' hk' hDk'' => hn k' hk' ((hD' k').2 (.inl hDk''))
  · rw [show (a.put o.dst x).tmps.size = a.tmps.size by cases o.dst <;> simp [Act.put]]; exact i.size
  · intro t hn u hu
    have hnj : ¬ WtT opsA j t := hn j hj ((hD' j).2 (.inr rfl))
    rw [hput t hnj]
    exact (i.t0 t (fun k hk hDk => hn k hk ((hD' k).2 (.inl hDk))) u hu).le hs'.goes.le
  · intro t k hk hDk hw hn u hu
    by_cases hwj : WtT opsA j t
    · have hkj : k = j := by
        rcases (hD' k).1 hDk with h | h
        · exact absurd hwj (hn j hj ((hD' j).2 (.inr rfl)) (laterT k t hk h hw hwj))
        · exact h
      subst hkj
      obtain ⟨o', ho', hd⟩ := hwj
      rw [ho] at ho'; cases ho'
      rw [(r.step k o ho).1, hd] at hu
      have hnn : ∀ q, q ≤ opsA.size → (tms q).n = (tms 0).n := by
        intro q
        induction q with
        | zero => intro _; rfl
        | succ q ih =>
          intro hq
          obtain ⟨oq, hoq⟩ := r.get (i := q) (by omega)
          rw [(r.step q oq hoq).1, ← ih (by omega)]
          cases oq.dst with
          | none => rfl
          | some d => exact Tm.n_set _ _ _
      simp only [Tm.put] at hu
      by_cases hlt : t < (tms k).n
      · rw [Tm.get_set _ _ _ _ hlt, if_pos rfl] at hu
        cases hu
        have : t < a.tmps.size := by rw [i.size, ← hnn k (by omega)]; exact hlt
        simpa [hd, Act.put, Array.getD_eq_getD_getElem?, this] using hx
      · have e1 : (tms k).set t (vs k) = tms k := by simp [Tm.set, blt_false hlt]
        rw [e1] at hu
        -- a slot beyond the frame: what it was
        have hsz : ¬ t < a.tmps.size := by rw [i.size, ← hnn k (by omega)]; exact hlt
        have hput' : (a.put o.dst x).tmps.getD t undef = a.tmps.getD t undef := by
          rw [hd]; simp [Act.put, Array.getD_eq_getD_getElem?, hsz]
        rw [hput']
        have hstep : ∀ q, q < opsA.size → (tms (q + 1)).get t = (tms q).get t := by
          intro q hq
          obtain ⟨oq, hoq⟩ := r.get hq
          rw [(r.step q oq hoq).1]
          cases hdq : oq.dst with
          | none => rfl
          | some d =>
            by_cases e : t = d
            · subst e
              simp only [Tm.put]
              have : ¬ t < (tms q).n := by rw [hnn q (by omega), ← hnn k (by omega)]; exact hlt
              simp [Tm.set, blt_false this]
            · exact Tm.get_set_ne _ _ _ _ e
        have hk0 : (tms k).get t = (tms 0).get t := by
          have : ∀ q, q ≤ k → (tms q).get t = (tms 0).get t := by
            intro q
            induction q with
            | zero => intro _; rfl
            | succ q ih => intro hq; rw [hstep q (by omega), ih (by omega)]
          exact this k (Nat.le_refl _)
        have all : ∀ q, q ≤ opsA.size → (tms q).get t = (tms 0).get t := by
          intro q
          induction q with
          | zero => intro _; rfl
          | succ q ih => intro hq; rw [hstep q (by omega), ih (by omega)]
        by_cases hex : ∃ q, q < opsA.size ∧ D q ∧ WtT opsA q t ∧ ∀ q', q' < opsA.size → D q' → q < q' → ¬ WtT opsA q' t
        · obtain ⟨q, h1, h2, h3, h4⟩ := hex
          exact (i.t1 t q h1 h2 h3 h4 u (by rw [all (q + 1) (by omega), ← hk0]; exact hu)).le hs'.goes.le
        · refine (i.t0 t (fun q hq hDq hwq => ?_) u (by rw [← hk0]; exact hu)).le hs'.goes.le
          -- there is a last writer among those done
          have : ∀ n, n ≤ opsA.size → (∃ q, q < n ∧ D q ∧ WtT opsA q t) → ∃ q, q < n ∧ D q ∧ WtT opsA q t ∧ ∀ q', q' < n → D q' → q < q' → ¬ WtT opsA q' t := by
            intro n
            induction n with
            | zero => rintro _ ⟨q, h, _⟩; omega
            | succ n ih =>
              rintro hn' ⟨q, h1, h2, h3⟩
              by_cases hw' : D n ∧ WtT opsA n t
              · exact ⟨n, by omega, hw'.1, hw'.2, fun q' h _ h' => by omega⟩
              · have : q < n := by
                  rcases Nat.lt_or_ge q n with h | h
                  · exact h
                  · have : q = n := by omega
                    subst this; exact absurd ⟨h2, h3⟩ hw'
                obtain ⟨q2, g1, g2, g3, g4⟩ := ih (by omega) ⟨q, this, h2, h3⟩
                refine ⟨q2, by omega, g2, g3, fun q' h hD hlt' hw2 => ?_⟩
                rcases Nat.lt_or_ge q' n with h' | h'
                · exact g4 q' h' hD hlt' hw2
                · have : q' = n := by omega
                  subst this; exact hw' ⟨hD, hw2⟩
          exact hex (this opsA.size (Nat.le_refl _) ⟨q, hq, hDq, hwq⟩)
    · rw [hput t hwj]
      have hDk' : D k := by
        rcases (hD' k).1 hDk with h | rfl
        · exact h
        · exact absurd hw hwj
      exact (i.t1 t k hk hDk' hw (fun k' hk' hDk'' => hn k' hk' ((hD' k').2 (.inl hDk''))) u hu).le hs'.goes.le
  · rw [show (a.put o.dst x).defers = a.defers by cases o.dst <;> rfl]; exact i.defers

end
end Go.Vm
set_option linter.unusedVariables false
set_option linter.unusedSimpArgs false
namespace Go.Vm
variable {P : Program}

def Dl (listed : Array Bool) : Nat → Prop := fun k => listed[k]? = some true
theorem Dl_set {listed : Array Bool} {j : Nat} (hj : j < listed.size) (k : Nat) : Dl (listed.setIfInBounds j true) k ↔ Dl listed k ∨ k = j := by
  unfold Dl
  rw [Array.getElem?_setIfInBounds]
  by_cases e : j = k
  · subst e; simp [hj]
  · simp [e]; exact fun h => absurd h.symm e
theorem mem_ready {opsA : Array Oper} {listed : Array Bool} {i : Nat} : i ∈ Region.ready .any opsA listed ↔ i < opsA.size ∧ listed.getD i true = false ∧ ∀ o, opsA[i]? = some o → ∀ e ∈ o.after, Region.binds .any e = true → listed.getD e.on false = true := by
  simp only [Region.ready, List.mem_filter, List.mem_range]
  constructor
  · rintro ⟨h1, h2⟩
    simp only [Bool.and_eq_true, Bool.not_eq_true'] at h2
    refine ⟨h1, h2.1, fun o ho e he hb => ?_⟩
    have h3 := h2.2
    simp only [ho, Option.map_some, Option.getD_some] at h3
    have := (Array.all_eq_true_iff_forall_mem.1 h3) e he
    simpa [hb] using this
  · rintro ⟨h1, h2, h3⟩
    refine ⟨h1, ?_⟩
    simp only [Bool.and_eq_true, Bool.not_eq_true']
    refine ⟨h2, ?_⟩
    simp only [Array.getElem?_eq_getElem h1, Option.map_some, Option.getD_some]
    rw [Array.all_eq_true_iff_forall_mem]
    intro e he
    by_cases hb : Region.binds .any e = true
    · simp [h3 _ (Array.getElem?_eq_getElem h1) e he hb]
    · simp [hb]

structure Front (opsF opsA : Array Oper) : Prop where
  le : opsA.size ≤ opsF.size
  get : ∀ i, i < opsA.size → opsA[i]? = opsF[i]?
theorem Front.refl (opsF : Array Oper) : Front opsF opsF := ⟨Nat.le_refl _, fun _ _ => rfl⟩

theorem draw_main {rd : Option Nat} {X : Nat → Prop} {opsF opsA : Array Oper} {hs : Nat → Heap} {tms : Nat → Tm} {vs : Nat → V} {R W : Nat → Set'} (fr : Front opsF opsA) (r : Run P opsF.toList X rd opsA hs tms vs R W) {Rt Wt : Set'}
    (hR : ∀ k b, k < opsA.size → b < (hs 0).n → R k b → Rt b) (hW : ∀ k b, k < opsA.size → b < (hs 0).n → W k b → Wt b) {H0 : HF} {σ0 : Ren} {w0 : World} {arr0 : Array Value} {ds : List Deferred} {Q : Exit → Act → World → Prop}
    (p0 : Pre P (hs 0) (hs opsA.size) Rt Wt H0 σ0 w0) (edgeF : ∀ i o, opsF[i]? = some o → ∀ e ∈ o.after, Region.binds .any e = true → e.on < i)
    (s : Nat) (hs' : s + 1 = opsA.size ∨ (s = opsF.size ∧ opsA.size = opsF.size)) (later : s < opsF.size → ∀ j, s < j → j < opsF.size → Bef opsF.toList s j)
    (next : s < opsF.size → ∀ fuel (listed : Array Bool) a w σ H, listed.size = opsF.size → listed.toList.countP (fun x => !x) ≤ fuel + 1 → (∀ k, Dl listed k → k < s) → (∀ i, X i → i = s ∨ Dl listed i) → RInv P opsA hs tms W H0 σ0 w0 arr0 ds (Dl listed) σ H a w → s ∈ Region.ready .any opsF listed →
      wpOpIn (FW rd) 0 P opsF Q s (wpAnyIn (FW rd) 0 P .any opsF Q fuel (listed.setIfInBounds s true)) a w)
    (finQ : s = opsF.size → ∀ σ' H' a' w', a'.defers = ds → TRel σ' (tms opsA.size) a'.tmps → Step P (hs 0) (hs opsA.size) Wt H0 H' σ0 σ' w0 w' → Q .normal a' w') :
    ∀ (fuel : Nat) (listed : Array Bool) (a' : Act) (w' : World), listed.size = opsF.size → listed.toList.countP (fun x => !x) ≤ fuel → (∀ k, Dl listed k → k < s) → (∀ i, X i → i = s ∨ Dl listed i) →
      (∃ σ H, RInv P opsA hs tms W H0 σ0 w0 arr0 ds (Dl listed) σ H a' w') → wpAnyIn (FW rd) 0 P .any opsF Q fuel listed a' w' := by
  have hRW : ∀ k b, k < opsA.size → b < (hs 0).n → R k b ∨ W k b → Rt b ∨ Wt b := fun k b hk hb h => h.imp (hR k b hk hb) (hW k b hk hb)
  have hle := fr.le
  have hsA : s ≤ opsA.size := by omega
  have hall : ∀ (listed : Array Bool), listed.size = opsF.size → Region.ready .any opsF listed = [] → ∀ k, k < opsF.size → Dl listed k := by
    intro listed hsz hnil k
    induction k using Nat.strongRecOn with
    | _ k ih =>
      intro hk
      by_cases hd : Dl listed k
      · exact hd
      · exfalso
        have : k ∈ Region.ready .any opsF listed := by
          refine mem_ready.2 ⟨hk, ?_, fun o ho e he hb => ?_⟩
          · have hk' : k < listed.size := by omega
            have : listed[k] ≠ true := fun e => hd (by unfold Dl; rw [Array.getElem?_eq_getElem hk', e])
            simpa [Array.getD_eq_getD_getElem?, Array.getElem?_eq_getElem hk'] using this
          · have hlt := edgeF k o ho e he hb
            have := ih e.on hlt (by omega)
            unfold Dl at this
            simp [Array.getD_eq_getD_getElem?, this]
        rw [hnil] at this
        cases this
  -- the end
  have fin : ∀ (listed : Array Bool) (a' : Act) (w' : World) σ H, listed.size = opsF.size → (∀ k, Dl listed k → k < s) → RInv P opsA hs tms W H0 σ0 w0 arr0 ds (Dl listed) σ H a' w' → Region.ready .any opsF listed = [] → Q .normal a' w' := by
    intro listed a' w' σ H hsz hlt i hnil
    have hallF := hall listed hsz hnil
    have hse : s = opsF.size ∧ opsA.size = opsF.size := by
      rcases hs' with h | h
      · have := hlt s (hallF s (by omega)); omega
      · exact h
    have hall : ∀ k, k < opsA.size → Dl listed k := fun k hk => hallF k (by omega)
    refine finQ hse.1 σ H a' w' i.defers ⟨?_, fun t u hu => ?_⟩ ⟨?_, fun b hb => ?_⟩
    · rw [i.size]
      have : ∀ q, q ≤ opsA.size → (tms q).n = (tms 0).n := by
        intro q
        induction q with
        | zero => intro _; rfl
        | succ q ih =>
          intro hq
          obtain ⟨oq, hoq⟩ := r.get (i := q) (by omega)
          rw [(r.step q oq hoq).1, ← ih (by omega)]
          cases oq.dst with
          | none => rfl
          | some d => exact Tm.n_set _ _ _
      exact (this _ (Nat.le_refl _)).symm
    · exact i.temps r (Nat.le_refl _) (fun h => by omega) (fun o ho => by simp at ho) (fun _ k hk => hall k hk) (fun o ho => by simp at ho) hu
    · have g := i.goes
      have hN : ∀ b, ND opsA.size hs (Dl listed) b ↔ New (hs 0) (hs opsA.size) b := by
        intro b
        constructor
        · rintro ⟨k, h1, h2, h3⟩
          exact ⟨Nat.le_trans (r.n_mono (Nat.zero_le _) (by omega)) h3.1, Nat.lt_of_lt_of_le h3.2 (r.n_mono (by omega) (Nat.le_refl _))⟩
        · rintro ⟨h1, h2⟩
          obtain ⟨k, hk, hkn⟩ := r.made (Nat.le_refl _) h1 h2
          exact ⟨k, hk, hall k hk, hkn⟩
      have hWW : ∀ b, WD opsA.size hs W (Dl listed) b → Old (hs 0) Wt b := fun b ⟨h1, k, h2, _, h3⟩ => ⟨h1, hW k b h2 h1 h3⟩
      have g' := g.more hWW
      exact { g' with
        dom := fun b l h => (g'.dom b l h).imp id (hN b).1
        virt := fun b h1 h2 => g'.virt b h1 fun h => h2 ((hN b).1 h)
        dead := fun b h1 h2 => g'.dead b (fun h => h1 ((hN b).1 h)) h2
        fresh := fun b l h1 h2 h3 => (g'.fresh b l ((hN b).2 h1) h2 h3).imp id fun ⟨c, lc, h4, h5, h6, h7⟩ => ⟨c, lc, h4, h5, fun h => h6 ((hN c).2 h), h7⟩ }
    · refine i.blocks r p0 hRW (Nat.le_refl _) (fun h => by omega) (fun o ho => by simp at ho) (fun _ k hk => hall k hk) ?_ ⟨fun h => by omega, fun _ h => ?_⟩
      · rcases hb with hb | hb
        · exact hb.2
        · exact Nat.lt_of_lt_of_le hb.1 (r.n_mono (Nat.zero_le _) (Nat.le_refl _))
      · rcases hb with hb | hb
        · have := hb.1; omega
        · exact .inr hb.2
  -- the rounds
  intro fuel
  induction fuel with
  | zero =>
    rintro listed a' w' hsz hcount hlt hX ⟨σ, H, i⟩
    have hnil : Region.ready .any opsF listed = [] := by
      rw [List.eq_nil_iff_forall_not_mem]
      intro k hk
      obtain ⟨h1, h2, _⟩ := mem_ready.1 hk
      have hk' : k < listed.size := by omega
      have hz : listed.toList.countP (fun x => !x) = 0 := by omega
      rw [List.countP_eq_zero] at hz
      have := hz listed[k] (by simp)
      simp [Array.getD_eq_getD_getElem?, Array.getElem?_eq_getElem hk'] at h2
      simp [h2] at this
    exact ⟨hnil, fin listed a' w' σ H hsz hlt i hnil⟩
  | succ fuel ih =>
    rintro listed a' w' hsz hcount hlt hX ⟨σ, H, i⟩
    refine ⟨fun hnil => fin listed a' w' σ H hsz hlt i hnil, fun j hj => ?_⟩
    obtain ⟨h1, h2, h3⟩ := mem_ready.1 hj
    have hjs : j < listed.size := by omega
    have hjD : ¬ Dl listed j := by
      intro h; unfold Dl at h
      simp [Array.getD_eq_getD_getElem?, h] at h2
    have hdl : ∀ (o : Oper), opsF[j]? = some o → ∀ e ∈ o.after, Region.binds .any e = true → Dl listed e.on := by
      intro o ho e he hb
      have := h3 o ho e he hb
      unfold Dl
      cases hq : listed[e.on]? with
      | none => simp [Array.getD_eq_getD_getElem?, hq] at this
      | some y => simp [Array.getD_eq_getD_getElem?, hq] at this; rw [this]
    by_cases hjs2 : j = s
    · subst hjs2
      exact next h1 fuel listed a' w' σ H hsz hcount hlt hX i hj
    have hjlt : j < s := by
      rcases Nat.lt_trichotomy j s with h | h | h
      · exact h
      · exact absurd h hjs2
      · exfalso
        have hsF : s < opsF.size := by omega
        have hcl : Closed opsF.toList (Dl listed) := fun k o hk hD e he hb => by
          have hk2 := hlt k hD
          have hkA : k < opsA.size := by omega
          have hk' : opsA.toList[k]? = some o := by
            have := fr.get k hkA
            simp at hk
            rw [hk] at this
            simpa using this
          exact i.closed k o hk' hD e he hb
        have hd := before_done (opsA := opsF) hcl hdl (later hsF j h h1) (by omega)
        have := hlt s hd
        omega
    have hjA : j < opsA.size := by omega
    obtain ⟨o, ho⟩ := r.get hjA
    have hoF : opsF[j]? = some o := by rw [← fr.get j hjA]; exact ho
    have hready : ∀ e ∈ o.after, Region.binds .any e = true → Dl listed e.on := hdl o hoF
    have hready' : ∀ o', opsA[j]? = some o' → ∀ e ∈ o'.after, Region.binds .any e = true → Dl listed e.on := fun o' h => by rw [ho] at h; cases h; exact hready
    have hcount' : (listed.setIfInBounds j true).toList.countP (fun x => !x) ≤ fuel := by
      have hlj : listed[j] = false := by simpa [Array.getD_eq_getD_getElem?, Array.getElem?_eq_getElem hjs] using h2
      have hjl : j < listed.toList.length := by simpa using hjs
      rw [Array.toList_setIfInBounds, List.countP_set hjl]
      have hpos : 0 < listed.toList.countP (fun x => !x) := List.countP_pos_iff.2 ⟨listed[j], by simp, by simp [hlj]⟩
      simp only [Array.getElem_toList, hlj, Bool.not_false, if_true, Bool.not_true, Bool.false_eq_true, if_false]
      omega
    obtain ⟨hput, hvf, hcase⟩ := r.step j o ho
    have hXj : ¬ X j := fun h => by
      rcases hX j h with h | h
      · exact hjs2 h
      · exact hjD h
    have hwant : ∀ b, wantV opsF.toList (tms j) o = some b → Region.wanted o (yielded opsF a'.tmps) = b := fun b hb => wantV_ok hb fun g want q t u hg hq hd hu =>
      i.temps r (by omega) (fun _ => hjD) hready' (fun h => by omega) (fun o' ho' => by
        rw [ho] at ho'; cases ho'
        have hq' : opsF.toList[g]? = some q := by simpa using hq
        simp [looks, hg, hq', hd]) hu
    have pj : Pre P (hs j) (hs (j + 1)) (R j) (W j) H σ w' := by
      refine ⟨fun b hb hRb => i.blocks r p0 hRW (by omega) (fun _ => hjD) hready' (fun h => by omega) hb ⟨fun _ => hRb, fun h => by omega⟩, fun b hb => ?_, i.goes.inv⟩
      have hb0 : New (hs 0) (hs opsA.size) b := ⟨Nat.le_trans (r.n_mono (Nat.zero_le _) (by omega)) hb.1, Nat.lt_of_lt_of_le hb.2 (r.n_mono (by omega) (Nat.le_refl _))⟩
      have hother : ∀ k, k < opsA.size → Dl listed k → ¬ WtB hs W k b := by
        intro k hk hDk hw
        have hkj : k ≠ j := fun e => hjD (e ▸ hDk)
        rcases Nat.lt_or_ge k j with h | h
        · have := r.n_mono (i := k + 1) (j := j) (by omega) (by omega)
          have hlt : b < (hs (k + 1)).n := by
            rcases hw with hw | hw
            · exact Nat.lt_of_lt_of_le hw.1 (r.vf hk).n
            · exact hw.2
          have := hb.1; omega
        · have hlt : j < k := by omega
          have hle := r.n_mono (i := j + 1) (j := k) (by omega) (by omega)
          rcases hw with hw | hw
          · rcases r.apartH j k hlt hk with h' | h'
            · exact hjD (h' _ i.closed hDk)
            · exact h'.1 b (.inr hb) ⟨hw.1, .inr hw.2⟩
          · have := hw.1; have := hb.2; omega
      constructor
      · cases hsb : σ b with
        | none => rfl
        | some l =>
          rcases i.goes.dom b l hsb with h' | ⟨k, hk, hDk, hkn⟩
          · rw [(p0.fresh b hb0).1] at h'; cases h'
          · exact absurd (.inr hkn) (hother k hk hDk)
      · rw [i.h0 b hother]; exact (p0.fresh b hb0).2
    have go : ∀ x σ' H' w'', VRel σ' (vs j) x → Step P (hs j) (hs (j + 1)) (W j) H H' σ σ' w' w'' → wpAnyIn (FW rd) 0 P .any opsF Q fuel (listed.setIfInBounds j true) (a'.put o.dst x) w'' := by
      intro x σ' H' w'' hx hst
      refine ih _ _ _ (by simpa using hsz) hcount' (fun k hk => ?_) (fun k hk => ?_) ⟨σ', H', ?_⟩
      · rcases (Dl_set hjs k).1 hk with h | h
        · exact hlt k h
        · omega
      · rcases hX k hk with h | h
        · exact .inl h
        · exact .inr ((Dl_set hjs k).2 (.inl h))
      · exact i.next r p0 ho hjD hready hst hx (Dl_set hjs)
    unfold wpOpIn
    simp only [hoF]
    rcases hcase with ⟨hw, hok⟩ | ⟨hw, hv, hh, hnw⟩
    · rw [if_pos (hwant true hw)]
      refine (hok hXj).2 H σ w' a' _ Q pj (fun x hx v hv => ?_) go
      obtain ⟨tmps', ds'⟩ := a'
      exact ev_tmps ds' (fun t u e hu => i.temps r (by omega) (fun _ => hjD) hready' (fun h => by omega) (fun o' ho' => by
        rw [ho] at ho'; cases ho'
        refine List.mem_append_left _ (List.mem_filterMap.2 ⟨x, by simpa using hx, ?_⟩)
        rw [e]) hu) hv
    · rw [if_neg (by rw [hwant false hw]; simp)]
      refine ⟨fun _ _ => trivial, ?_⟩
      refine go undef σ H w' (by rw [hv]; exact ⟨undefV_on _, (undefV_re _).symm⟩) ?_
      rw [hh]
      exact Step.refl i.goes.inv fun b _ h => absurd h (hnw b)

theorem RInv.start {opsF : Array Oper} {hs : Nat → Heap} {tms : Nat → Tm} {W : Nat → Set'} {H0 : HF} {σ0 : Ren} {w0 w1 : World} {a : Act} {arr0 : Array Value} (hi : Inv P H0 σ0 w0) (ht : TRel σ0 (tms 0) a.tmps) (hw : w1 = { w0 with drawn := w0.drawn + 1 }) {D : Nat → Prop} (hD : ∀ k, ¬ D k) :
    RInv P opsF hs tms W H0 σ0 w0 arr0 a.defers D σ0 H0 a w1 := by
  subst hw
  refine ⟨fun k o _ hk => absurd hk (hD k), ?_, fun b _ => rfl, fun b k _ hk => absurd hk (hD k), ht.1, fun t _ u hu => ht.2 t u hu, fun t k _ hk => absurd hk (hD k), rfl⟩
  exact (Goes.refl hi (fun b ⟨k, _, hk, _⟩ => hD k hk)).heap rfl rfl rfl rfl

theorem wp_draw (hm : P.follows .mixedOrders = true) {rd : Option Nat} {opsA : Array Oper} {hs : Nat → Heap} {tms : Nat → Tm} {vs : Nat → V} {R W : Nat → Set'} (r : Run P opsA.toList (fun _ => False) rd opsA hs tms vs R W) {Rt Wt : Set'}
    (hR : ∀ k b, k < opsA.size → b < (hs 0).n → R k b → Rt b) (hW : ∀ k b, k < opsA.size → b < (hs 0).n → W k b → Wt b) {rid : Nat} {H0 : HF} {σ0 : Ren} {w0 : World} {a : Act} {Q : Exit → Act → World → Prop}
    (p0 : Pre P (hs 0) (hs opsA.size) Rt Wt H0 σ0 w0) (ht : TRel σ0 (tms 0) a.tmps)
    (hQ : ∀ σ' H' a' w', a'.defers = a.defers → TRel σ' (tms opsA.size) a'.tmps → Step P (hs 0) (hs opsA.size) Wt H0 H' σ0 σ' w0 w' → Q .normal a' w') :
    (Code.region rid opsA true).wpIn (FW rd) 0 P Q a w0 := by
  refine wpIn_region_any hm ?_
  have hD : ∀ k, ¬ Dl (Array.replicate opsA.size false) k := by
    intro k h; unfold Dl at h; simp [Array.getElem?_replicate] at h
  exact draw_main (Front.refl opsA) r hR hW (arr0 := a.tmps) (ds := a.defers) p0 r.edge opsA.size (.inr ⟨rfl, rfl⟩) (fun h => by omega) (fun h => by omega) (fun _ => hQ) opsA.size _ a _ (by simp) (by simp [List.countP_replicate]) (fun k h => absurd h (hD k)) (fun _ h => h.elim) ⟨σ0, H0, RInv.start p0.inv ht rfl hD⟩

end Go.Vm
set_option linter.unusedVariables false
set_option linter.unusedSimpArgs false
namespace Go.Vm
variable {P : Program}

def maskOf (acc : List Nat) : List Edge → Nat
  | [] => 0
  | e :: r => match Region.binds .any e with
    | true => (2 ^ e.on ||| acc.getD e.on 0) ||| maskOf acc r
    | false => maskOf acc r
def masks : List Oper → List Nat → List Nat
  | [], acc => acc
  | o :: r, acc => masks r (acc ++ [maskOf acc o.after.toList])
theorem maskOf_bit {acc : List Nat} {i : Nat} : ∀ {es : List Edge}, Nat.testBit (maskOf acc es) i = true → ∃ e ∈ es, Region.binds .any e = true ∧ (i = e.on ∨ Nat.testBit (acc.getD e.on 0) i = true)
  | [], h => by simp [maskOf] at h
  | e :: r, h => by
    unfold maskOf at h
    split at h
    · rename_i hb
      rw [Nat.testBit_or, Nat.testBit_or, Nat.testBit_two_pow] at h
      simp only [Bool.or_eq_true, decide_eq_true_eq] at h
      rcases h with (h | h) | h
      · exact ⟨e, by simp, hb, .inl h.symm⟩
      · exact ⟨e, by simp, hb, .inr h⟩
      · obtain ⟨e', h1, h2⟩ := maskOf_bit h; exact ⟨e', by simp [h1], h2⟩
    · obtain ⟨e', h1, h2⟩ := maskOf_bit h; exact ⟨e', by simp [h1], h2⟩
theorem masks_bef (ops : List Oper) : ∀ (r pre : List Oper) (acc : List Nat), ops = pre ++ r → acc.length = pre.length → (∀ j i, Nat.testBit (acc.getD j 0) i = true → Bef ops i j) → ∀ j i, Nat.testBit ((masks r acc).getD j 0) i = true → Bef ops i j
  | [], pre, acc, _, _, h => h
  | o :: r, pre, acc, he, hl, h => by
    refine masks_bef ops r (pre ++ [o]) (acc ++ [maskOf acc o.after.toList]) (by simp [he]) (by simp [hl]) fun j i hb => ?_
    rcases Nat.lt_trichotomy j acc.length with hj | hj | hj
    · refine h j i ?_
      simpa [List.getD, List.getElem?_append_left hj] using hb
    · subst hj
      have hb' : Nat.testBit (maskOf acc o.after.toList) i = true := by simpa [List.getD] using hb
      obtain ⟨e, h1, h2, h3⟩ := maskOf_bit hb'
      intro D hD hj
      have ho : ops[acc.length]? = some o := by rw [he, hl]; simp
      have hDe : D e.on := hD _ o ho hj e (by simpa using h1) h2
      rcases h3 with rfl | h3
      · exact hDe
      · exact h _ _ h3 D hD hDe
    · have : (acc ++ [maskOf acc o.after.toList]).getD j 0 = 0 := by
        simp only [List.getD]
        rw [List.getElem?_eq_none (by simp; omega)]; rfl
      rw [this] at hb
      simp at hb
theorem masks_ok {ops : List Oper} {i j : Nat} (h : Nat.testBit ((masks ops []).getD j 0) i = true) : Bef ops i j :=
  masks_bef ops ops [] [] rfl rfl (fun j i h => by simp [List.getD] at h) j i h

def apartB (ops : List Oper) (i j : Nat) : Bool := match ops[i]?, ops[j]? with
  | some oi, some oj =>
    (match oi.dst with
     | some t => !(looks ops oj).contains t && oj.dst != some t
     | none => true) &&
    (match oj.dst with
     | some t => !(looks ops oi).contains t
     | none => true)
  | _, _ => true
def staticOk (ops : List Oper) : Bool :=
  ((List.range ops.length).all fun j => match ops[j]? with
    | some o => o.after.toList.all fun e => !Region.binds .any e || Nat.blt e.on j
    | none => true) &&
  (List.range ops.length).all fun j => (List.range j).all fun i => Nat.testBit ((masks ops []).getD j 0) i || apartB ops i j
theorem static_edge {ops : List Oper} (h : staticOk ops = true) {j : Nat} {o : Oper} (ho : ops[j]? = some o) {e : Edge} (he : e ∈ o.after) (hb : Region.binds .any e = true) : e.on < j := by
  unfold staticOk at h
  simp only [Bool.and_eq_true] at h
  have hj : j < ops.length := (List.getElem?_eq_some_iff.1 ho).1
  have := List.all_eq_true.1 h.1 j (List.mem_range.2 hj)
  simp only [ho] at this
  have := List.all_eq_true.1 this e (by simpa using he)
  simp only [hb, Bool.not_true, Bool.false_or] at this
  exact Nat.blt_eq.mp this
theorem static_tmps {ops : List Oper} (h : staticOk ops = true) {i j : Nat} {oi oj : Oper} (hij : i < j) (hoi : ops[i]? = some oi) (hoj : ops[j]? = some oj) :
    Bef ops i j ∨ ((∀ t, oi.dst = some t → t ∉ looks ops oj ∧ oj.dst ≠ some t) ∧ (∀ t, oj.dst = some t → t ∉ looks ops oi)) := by
  unfold staticOk at h
  simp only [Bool.and_eq_true] at h
  have hj : j < ops.length := (List.getElem?_eq_some_iff.1 hoj).1
  have h1 := List.all_eq_true.1 (List.all_eq_true.1 h.2 j (List.mem_range.2 hj)) i (List.mem_range.2 hij)
  simp only [Bool.or_eq_true] at h1
  rcases h1 with h1 | h1
  · exact .inl (masks_ok h1)
  · right
    simp only [apartB, hoi, hoj, Bool.and_eq_true] at h1
    refine ⟨fun t ht => ?_, fun t ht => ?_⟩
    · have := h1.1
      simp only [ht, Bool.and_eq_true, Bool.not_eq_true'] at this
      exact ⟨by simpa using this.1, by simpa using this.2⟩
    · have := h1.2
      simp only [ht, Bool.not_eq_true'] at this
      simpa using this

structure Row where
  r : List Nat
  w : List Nat
  n : Nat
  n' : Nat
def noneIn (w : List Nat) (n n' : Nat) : List Nat → Bool
  | [] => true
  | b :: r => match w.contains b with
    | true => false
    | false => match Nat.ble n b, Nat.blt b n' with
      | true, true => false
      | _, _ => noneIn w n n' r
theorem noneIn_iff {w : List Nat} {n n' : Nat} : ∀ {l : List Nat}, noneIn w n n' l = true ↔ ∀ b ∈ l, b ∉ w ∧ ¬ (n ≤ b ∧ b < n')
  | [] => by simp [noneIn]
  | b :: r => by
    unfold noneIn
    split
    · rename_i hc
      simp only [Bool.false_eq_true, false_iff]
      intro h
      exact (h b (by simp)).1 (by simpa using hc)
    · rename_i hc
      split
      · rename_i h1 h2
        simp only [Bool.false_eq_true, false_iff]
        intro h
        exact (h b (by simp)).2 ⟨Nat.le_of_ble_eq_true h1, Nat.blt_eq.mp h2⟩
      · rename_i h1
        rw [noneIn_iff]
        constructor
        · intro h c hc'
          rcases List.mem_cons.1 hc' with rfl | hc'
          · exact ⟨by simpa using hc, fun ⟨g1, g2⟩ => h1 (Nat.ble_eq_true_of_le g1) (blt_true g2)⟩
          · exact h c hc'
        · intro h c hc'; exact h c (by simp [hc'])
def quiet (r : Row) : Bool := match r.w with
  | [] => Nat.beq r.n r.n'
  | _ => false
def pairOk (M : List Nat) (i j : Nat) (ri rj : Row) : Bool := match Nat.blt i j with
  | true => Nat.testBit (M.getD j 0) i || (noneIn rj.w 0 0 ri.r && noneIn rj.w 0 0 ri.w)
  | false => match Nat.blt j i with
    | true => Nat.testBit (M.getD i 0) j || (noneIn rj.w rj.n rj.n' ri.r && noneIn rj.w rj.n rj.n' ri.w)
    | false => true
def rowsOk (M : List Nat) (rows : List Row) : Bool := (List.range rows.length).all fun j => match rows[j]? with
  | some rj => quiet rj || (List.range rows.length).all fun i => match rows[i]? with
    | some ri => pairOk M i j ri rj
    | none => true
  | none => true
theorem rows_apart {M : List Nat} {rows : List Row} (h : rowsOk M rows = true) {i j : Nat} {ri rj : Row} (hi : rows[i]? = some ri) (hj : rows[j]? = some rj) (hij : i < j) :
    Nat.testBit (M.getD j 0) i = true ∨ ((∀ b, b ∈ ri.w ∨ (ri.n ≤ b ∧ b < ri.n') → b ∉ rj.r ∧ b ∉ rj.w) ∧ (∀ b ∈ rj.w, b ∉ ri.r ∧ b ∉ ri.w)) := by
  have get : ∀ {x y : Nat} {rx ry : Row}, rows[x]? = some rx → rows[y]? = some ry → quiet ry = true ∨ pairOk M x y rx ry = true := by
    intro x y rx ry hx hy
    have hyl := (List.getElem?_eq_some_iff.1 hy).1
    have hxl := (List.getElem?_eq_some_iff.1 hx).1
    have h1 := List.all_eq_true.1 h y (List.mem_range.2 hyl)
    simp only [hy, Bool.or_eq_true] at h1
    refine h1.imp (fun h => h) fun h1 => ?_
    have h2 := List.all_eq_true.1 h1 x (List.mem_range.2 hxl)
    simpa only [hx] using h2
  have hq : ∀ {r : Row}, quiet r = true → r.w = [] ∧ r.n = r.n' := by
    intro r hr
    unfold quiet at hr
    split at hr
    · rename_i e; exact ⟨e, Nat.eq_of_beq_eq_true hr⟩
    · cases hr
  have hij' : Nat.blt i j = true := blt_true hij
  have hji' : Nat.blt j i = false := blt_false (by omega)
  by_cases hbit : Nat.testBit (M.getD j 0) i = true
  · exact .inl hbit
  · right
    constructor
    · intro b hb
      rcases get hj hi with h1 | h1
      · obtain ⟨e1, e2⟩ := hq h1
        rw [e1, e2] at hb
        simp at hb
        omega
      · simp only [pairOk, hji', hij'] at h1
        simp only [Bool.or_eq_true, Bool.and_eq_true] at h1
        rcases h1 with h1 | h1
        · exact absurd h1 hbit
        · have a1 := noneIn_iff.1 h1.1
          have a2 := noneIn_iff.1 h1.2
          refine ⟨fun hm => ?_, fun hm => ?_⟩
          · rcases hb with hb | hb
            · exact (a1 b hm).1 hb
            · exact (a1 b hm).2 hb
          · rcases hb with hb | hb
            · exact (a2 b hm).1 hb
            · exact (a2 b hm).2 hb
    · intro b hb
      rcases get hi hj with h1 | h1
      · obtain ⟨e1, e2⟩ := hq h1
        rw [e1] at hb; cases hb
      · simp only [pairOk, hij', Bool.or_eq_true, Bool.and_eq_true] at h1
        rcases h1 with h1 | h1
        · exact absurd h1 hbit
        · exact ⟨fun hm => (noneIn_iff.1 h1.1 b hm).1 hb, fun hm => (noneIn_iff.1 h1.2 b hm).1 hb⟩

def evRows (P : Program) (inv : InvT) (ops : List Oper) : List Oper → Tm → Heap → Option (Tm × Heap × List Row)
  | [], tm, h => some (tm, h, [])
  | o :: r, tm, h => match wantV ops tm o with
    | some true => match evOp P inv tm ⟨h, h.n, [], []⟩ o with
      | some (v, s') => match evRows P inv ops r (tm.put o.dst v) s'.h with
        | some (tm', h', rows) => some (tm', h', ⟨s'.fr, s'.fw, h.n, s'.h.n⟩ :: rows)
        | none => none
      | none => none
    | some false => match evRows P inv ops r (tm.put o.dst undefV) h with
      | some (tm', h', rows) => some (tm', h', ⟨[], [], h.n, h.n⟩ :: rows)
      | none => none
    | none => none
def addRs (n0 : Nat) : List Row → List Nat → List Nat
  | [], acc => acc
  | r :: rs, acc => addF n0 r.r (addRs n0 rs acc)
def addWs (n0 : Nat) : List Row → List Nat → List Nat
  | [], acc => acc
  | r :: rs, acc => addF n0 r.w (addWs n0 rs acc)
theorem mem_addRs {n0 b : Nat} : ∀ {rows : List Row} {acc : List Nat}, (b ∈ acc → b ∈ addRs n0 rows acc) ∧ (∀ r ∈ rows, b ∈ r.r → b < n0 → b ∈ addRs n0 rows acc)
  | [], acc => ⟨fun h => h, fun r h => by cases h⟩
  | x :: rows, acc => ⟨fun h => mem_addF.2 (.inr (mem_addRs.1 h)), fun r hr hb hn => by
      rcases List.mem_cons.1 hr with rfl | hr
      · exact mem_addF.2 (.inl ⟨hb, hn⟩)
      · exact mem_addF.2 (.inr (mem_addRs.2 r hr hb hn))⟩
theorem mem_addWs {n0 b : Nat} : ∀ {rows : List Row} {acc : List Nat}, (b ∈ acc → b ∈ addWs n0 rows acc) ∧ (∀ r ∈ rows, b ∈ r.w → b < n0 → b ∈ addWs n0 rows acc)
  | [], acc => ⟨fun h => h, fun r h => by cases h⟩
  | x :: rows, acc => ⟨fun h => mem_addF.2 (.inr (mem_addWs.1 h)), fun r hr hb hn => by
      rcases List.mem_cons.1 hr with rfl | hr
      · exact mem_addF.2 (.inl ⟨hb, hn⟩)
      · exact mem_addF.2 (.inr (mem_addWs.2 r hr hb hn))⟩

def evDraw (P : Program) (inv : InvT) (ops : List Oper) (tm : Tm) (s : St) : Option (Tm × St) := match staticOk ops with
  | true => match evRows P inv ops ops tm s.h with
    | some (tm', h', rows) => match rowsOk (masks ops []) rows with
      | true => some (tm', ⟨h', s.n0, addRs s.n0 rows s.fr, addWs s.n0 rows s.fw⟩)
      | false => none
    | none => none
  | false => none

theorem evRows_run {inv : InvT} (hi : InvGood P inv) (ops : List Oper) : ∀ (l : List Oper) (tm tm' : Tm) (h h' : Heap) (rows : List Row), evRows P inv ops l tm h = some (tm', h', rows) →
    ∃ (hs : Nat → Heap) (tms : Nat → Tm) (vs : Nat → V) (R W : Nat → Set'), hs 0 = h ∧ tms 0 = tm ∧ hs l.length = h' ∧ tms l.length = tm' ∧ rows.length = l.length ∧
      ∀ i o, l[i]? = some o → ∃ row, rows[i]? = some row ∧ row.n = (hs i).n ∧ row.n' = (hs (i + 1)).n ∧ (∀ b, b < (hs i).n → (R i b → b ∈ row.r) ∧ (W i b → b ∈ row.w)) ∧ tms (i + 1) = (tms i).put o.dst (vs i) ∧ VF (hs i) (hs (i + 1)) (W i) ∧
        ((wantV ops (tms i) o = some true ∧ ∀ rd, OpOk P rd o (tms i) (hs i) (vs i) (hs (i + 1)) (R i) (W i)) ∨ (wantV ops (tms i) o = some false ∧ vs i = undefV ∧ hs (i + 1) = hs i ∧ (∀ b, ¬ W i b)))
  | [], tm, tm', h, h', rows, hv => by
    cases hv
    exact ⟨fun _ => h, fun _ => tm, fun _ => undefV, fun _ _ => False, fun _ _ => False, rfl, rfl, rfl, rfl, rfl, fun i o ho => by simp at ho⟩
  | o :: r, tm, tm', h, h', rows, hv => by
    unfold evRows at hv
    split at hv
    · rename_i hw
      split at hv
      · rename_i v s' h1
        split at hv
        · rename_i tm2 h2 rows2 h3
          cases hv
          obtain ⟨l1, ok1⟩ := evOp_ok hi h1
          obtain ⟨hs, tms, vs, R, W, e1, e2, e3, e4, e5, e6⟩ := evRows_run hi ops r _ _ _ _ _ h3
          refine ⟨fun k => Nat.casesOn k h hs, fun k => Nat.casesOn k tm tms, fun k => Nat.casesOn k v vs, fun k => Nat.casesOn k s'.R R, fun k => Nat.casesOn k s'.W W, rfl, rfl, e3, e4, by simp [e5], fun i q hq => ?_⟩
          cases i with
          | zero =>
            simp at hq; subst hq
            refine ⟨_, rfl, rfl, by show s'.h.n = (hs 0).n; rw [e1], fun b hb => ?_, by exact e2, by show VF h (hs 0) s'.W; rw [e1]; exact (ok1 none).1, .inl ⟨hw, fun rd => ?_⟩⟩
            · have hn0 : s'.n0 = h.n := l1.n0
              have hb' : b < h.n := hb
              exact ⟨fun h => h.resolve_left (by rw [hn0]; omega), fun h => h.resolve_left (by rw [hn0]; omega)⟩
            · show OpOk P rd o tm h v (hs 0) s'.R s'.W
              rw [e1]; exact ok1 rd
          | succ i => exact e6 i q (by simpa using hq)
        · cases hv
      · cases hv
    · rename_i hw
      split at hv
      · rename_i tm2 h2 rows2 h3
        cases hv
        obtain ⟨hs, tms, vs, R, W, e1, e2, e3, e4, e5, e6⟩ := evRows_run hi ops r _ _ _ _ _ h3
        refine ⟨fun k => Nat.casesOn k h hs, fun k => Nat.casesOn k tm tms, fun k => Nat.casesOn k undefV vs, fun k => Nat.casesOn k (fun _ => False) R, fun k => Nat.casesOn k (fun _ => False) W, rfl, rfl, e3, e4, by simp [e5], fun i q hq => ?_⟩
        cases i with
        | zero =>
          simp at hq; subst hq
          refine ⟨_, rfl, rfl, by show h.n = (hs 0).n; rw [e1], fun b hb => ⟨fun h => h.elim, fun h => h.elim⟩, by exact e2, by show VF h (hs 0) _; rw [e1]; exact VF.refl _ _, .inr ⟨hw, rfl, e1, fun b h => h⟩⟩
        | succ i => exact e6 i q (by simpa using hq)
      · cases hv
    · cases hv

theorem evDraw_ok (hm : P.follows .mixedOrders = true) {inv : InvT} (hi : InvGood P inv) (opsA : Array Oper) {tm tm' : Tm} {s s' : St} (hv : evDraw P inv opsA.toList tm s = some (tm', s')) :
    s.le s' ∧ VF s.h s'.h s'.W ∧ ∀ rd rid H σ w a Q, Pre P s.h s'.h s'.R s'.W H σ w → TRel σ tm a.tmps →
      (∀ σ' H' a' w', a'.defers = a.defers → TRel σ' tm' a'.tmps → Step P s.h s'.h s'.W H H' σ σ' w w' → Q .normal a' w') → (Code.region rid opsA true).wpIn (FW rd) 0 P Q a w := by
  unfold evDraw at hv
  split at hv
  · rename_i hst
    split at hv
    · rename_i tm2 h2 rows hr
      split at hv
      · rename_i hrow
        cases hv
        obtain ⟨hs, tms, vs, R, W, e1, e2, e3, e4, e5, e6⟩ := evRows_run hi opsA.toList opsA.toList _ _ _ _ _ hr
        have hlen : opsA.toList.length = opsA.size := by simp
        rw [hlen] at e3 e4 e5
        have e6' : ∀ i o, opsA[i]? = some o → _ := fun i o ho => e6 i o (by simpa using ho)
        have run : ∀ rd, Run P opsA.toList (fun _ => False) rd opsA hs tms vs R W := by
          intro rd
          refine ⟨fun i o ho => ?_, fun i o ho e he hb => ?_, fun i j oi oj hij hoi hoj => ?_, fun i j hij hj => ?_⟩
          · obtain ⟨row, _, _, _, _, h1, h2, h3⟩ := e6' i o ho
            exact ⟨h1, h2, h3.imp (fun ⟨a, b⟩ => ⟨a, fun _ => b rd⟩) fun h => h⟩
          · exact static_edge hst (by simpa using ho) he hb
          · exact static_tmps hst hij (by simpa using hoi) (by simpa using hoj)
          · have hi' : i < opsA.size := by omega
            obtain ⟨ri, g1, g2, g3, g4, _⟩ := e6' i _ (Array.getElem?_eq_getElem hi')
            obtain ⟨rj, k1, k2, k3, k4, _⟩ := e6' j _ (Array.getElem?_eq_getElem hj)
            rcases rows_apart hrow g1 k1 hij with h | h
            · exact .inl (masks_ok h)
            · right
              refine ⟨fun b hb hbj => ?_, fun b hb hbi => ?_⟩
              · have hb' : b ∈ ri.w ∨ (ri.n ≤ b ∧ b < ri.n') := by
                  rcases hb with hb | hb
                  · exact .inl ((g4 b hb.1).2 hb.2)
                  · exact .inr ⟨by rw [g2]; exact hb.1, by rw [g3]; exact hb.2⟩
                rcases hbj.2 with h' | h'
                · exact (h.1 b hb').1 ((k4 b hbj.1).1 h')
                · exact (h.1 b hb').2 ((k4 b hbj.1).2 h')
              · have hb' := (k4 b hb.1).2 hb.2
                rcases hbi.2 with h' | h'
                · exact (h.2 b hb').1 ((g4 b hbi.1).1 h')
                · exact (h.2 b hb').2 ((g4 b hbi.1).2 h')
        have hsub : ∀ k b, k < opsA.size → b < (hs 0).n → b < (hs k).n := fun k b hk hb => Nat.lt_of_lt_of_le hb ((run none).n_mono (Nat.zero_le _) (by omega))
        have hR : ∀ k b, k < opsA.size → b < (hs 0).n → R k b → s.n0 ≤ b ∨ b ∈ addRs s.n0 rows s.fr := by
          intro k b hk hb hRb
          obtain ⟨row, g1, g2, g3, g4, _⟩ := e6' k _ (Array.getElem?_eq_getElem hk)
          rcases Nat.lt_or_ge b s.n0 with h | h
          · exact .inr (mem_addRs.2 row (List.mem_of_getElem? g1) ((g4 b (hsub k b hk hb)).1 hRb) h)
          · exact .inl h
        have hW : ∀ k b, k < opsA.size → b < (hs 0).n → W k b → s.n0 ≤ b ∨ b ∈ addWs s.n0 rows s.fw := by
          intro k b hk hb hWb
          obtain ⟨row, g1, g2, g3, g4, _⟩ := e6' k _ (Array.getElem?_eq_getElem hk)
          rcases Nat.lt_or_ge b s.n0 with h | h
          · exact .inr (mem_addWs.2 row (List.mem_of_getElem? g1) ((g4 b (hsub k b hk hb)).2 hWb) h)
          · exact .inl h
        refine ⟨⟨rfl, fun b hb => mem_addRs.1 hb, fun b hb => mem_addWs.1 hb⟩, ?_, fun rd rid H σ w a Q p ht hQ => ?_⟩
        · have : ∀ k, k ≤ opsA.size → VF (hs 0) (hs k) (fun b => s.n0 ≤ b ∨ b ∈ addWs s.n0 rows s.fw) := by
            intro k
            induction k with
            | zero => intro _; exact VF.refl _ _
            | succ k ih =>
              intro hk
              have h1 := ih (by omega)
              have h2 := (run none).vf (i := k) (by omega)
              refine ⟨Nat.le_trans h1.n h2.n, fun b hb hw => ?_⟩
              rw [h2.get b (hsub k b (by omega) hb) fun hwk => hw (hW k b (by omega) hb hwk), h1.get b hb hw]
          have := this opsA.size (Nat.le_refl _)
          rwa [e1, e3] at this
        · have p' : Pre P (hs 0) (hs opsA.size) (fun b => s.n0 ≤ b ∨ b ∈ addRs s.n0 rows s.fr) (fun b => s.n0 ≤ b ∨ b ∈ addWs s.n0 rows s.fw) H σ w := by rw [e1, e3]; exact p
          refine wp_draw hm (run rd) hR hW p' (by rw [e2]; exact ht) fun σ' H' a' w' h1 h2 h3 => hQ σ' H' a' w' h1 (by rw [e4] at h2; exact h2) ?_
          rw [e1, e3] at h3; exact h3
      · cases hv
    · cases hv
  · cases hv

end Go.Vm
set_option linter.unusedVariables false
set_option linter.unusedSimpArgs false
namespace Go.Vm
variable {P : Program}

section
variable {F : Fence} {n : Nat} {Q : Exit → Act → World → Prop} {a : Act} {w : World} {b : Frame} {k : List Item} {cs : List Frame}
theorem stepR_scope {c : Code} : step P (lone (b.atR a (.code (.scope c) :: k)) cs w) = .next (lone (b.atR a (.code c :: .inScope c :: k)) cs w) :=
  step_lone_go (by simp [stepG, stepG.exec, Frame.atR])
theorem stepR_inScope {c : Code} : step P (lone (b.atR a (.inScope c :: k)) cs w) = .next (lone (b.atR a k) cs w) :=
  step_lone_go (by simp [stepG, stepG.exec, Frame.atR])
theorem wpIn_scope {c : Code} (h : c.wpIn F n P (Exit.noGoto Q) a w) : (Code.scope c).wpIn F n P Q a w := by
  intro b k cs hro hb hr
  have h0 : (lone (b.atR a (.code (.scope c) :: k)) cs w).fenced P F := fenced_calm hb hr rfl
  obtain ⟨e, a₁, w₁, hq, harr⟩ := h b (.inScope c :: k) cs hro hb hr
  cases e with
  | normal => exact ⟨.normal, a₁, w₁, hq, .head h0 stepR_scope (StepsIn.trans harr (.one (fenced_calm hb hr rfl) stepR_inScope))⟩
  | exit id =>
    have hx : exitTo id (.inScope c :: k) = exitTo id k := by simp [exitTo]
    exact ⟨.exit id, a₁, w₁, hq, fun k' hk => .head h0 stepR_scope (harr.1 k' (by rw [hx]; exact hk)),
      fun hr' hk => let ⟨k₁, h1, h2⟩ := harr.2 hr' (by rw [hx]; exact hk); ⟨k₁, h1, .head h0 stepR_scope h2⟩⟩
  | goto l => exact hq.elim
  | ret => exact ⟨_, a₁, w₁, hq, .of_steps (.one h0 stepR_scope) harr⟩
  | panic ch => exact ⟨_, a₁, w₁, hq, .of_steps (.one h0 stepR_scope) harr⟩
  | outgrown => exact ⟨_, a₁, w₁, hq, .of_steps (.one h0 stepR_scope) harr⟩
def LoopIn (F : Fence) (n : Nat) (P : Program) (c : Code) (Q : Exit → Act → World → Prop) (a : Act) (w : World) : Prop :=
  ∀ (b : Frame) (k : List Item) (cs : List Frame), b.roundOf = F.round → F.fn b.fn → F.room (cs.length + 1 + n) →
    ∃ e a' w', Q e a' w' ∧ ArrivesIn (Machine.fenced P F) P (lone (b.atR a (.code c :: .inLoop c :: k)) cs w) b k cs e a' w'
theorem loopIn_round {c : Code} (h : c.wpIn F n P (Exit.then (LoopIn F n P c Q) Q) a w) : LoopIn F n P c Q a w := by
  intro b k cs hro hb hr
  obtain ⟨e, a₁, w₁, hq, harr⟩ := h b (.inLoop c :: k) cs hro hb hr
  cases e with
  | normal =>
    obtain ⟨e₂, a₂, w₂, hq₂, harr₂⟩ := hq b k cs hro hb hr
    exact ⟨e₂, a₂, w₂, hq₂, .of_steps (StepsIn.trans harr (.one (fenced_calm hb hr rfl) stepR_inLoop)) harr₂⟩
  | exit id => exact ⟨_, a₁, w₁, hq, .pass (x := .inLoop c) rfl (fun _ _ => .inl (by simp)) harr⟩
  | goto l => exact ⟨_, a₁, w₁, hq, .pass (x := .inLoop c) rfl (fun _ _ => .inl (by simp)) harr⟩
  | ret => exact ⟨_, a₁, w₁, hq, .pass (x := .inLoop c) rfl (fun _ _ => .inl (by simp)) harr⟩
  | panic ch => exact ⟨_, a₁, w₁, hq, .pass (x := .inLoop c) rfl (fun _ _ => .inl (by simp)) harr⟩
  | outgrown => exact ⟨_, a₁, w₁, hq, .pass (x := .inLoop c) rfl (fun _ _ => .inl (by simp)) harr⟩
theorem wpIn_loopIn {c : Code} (h : LoopIn F n P c Q a w) : (Code.loop c).wpIn F n P Q a w := by
  intro b k cs hro hb hr
  obtain ⟨e, a', w', hq, harr⟩ := h b k cs hro hb hr
  exact ⟨e, a', w', hq, .of_steps (.one (fenced_calm hb hr rfl) stepR_loop) harr⟩
end

structure Fr where
  tm : Tm
  mks : List Nat
inductive Ex where
  | norm
  | exit (n : Nat)
  | ret
def Ex.to : Ex → Exit
  | .norm => .normal
  | .exit n => .exit n
  | .ret => .ret
def markOf (σ : Ren) (b : Nat) : Deferred := { target := .collected (σ.b b), args := #[] }
structure FRel (σ : Ren) (f : Fr) (a : Act) : Prop where
  tm : TRel σ f.tm a.tmps
  mks : a.defers = f.mks.map (markOf σ)
  on : ∀ b ∈ f.mks, σ.is b
theorem marks_le {σ τ : Ren} (hl : σ.le τ) {mks : List Nat} (hon : ∀ b ∈ mks, σ.is b) : mks.map (markOf τ) = mks.map (markOf σ) :=
  List.map_congr_left fun b hb => by simp [markOf, Ren.b_le hl (hon b hb)]
theorem FRel.le {σ τ : Ren} (hl : σ.le τ) {f : Fr} {a : Act} (h : FRel σ f a) : FRel τ f a :=
  ⟨h.tm.le hl, by rw [marks_le hl h.on]; exact h.mks, fun b hb => Ren.is_le hl (h.on b hb)⟩

def CodeOk (P : Program) (rd : Option Nat) (c : Code) (f : Fr) (h : Heap) (e : Ex) (f' : Fr) (h' : Heap) (R W : Set') : Prop :=
  VF h h' W ∧ ∀ H σ w a Q, (∀ l, rd = some l → σ.is l) → Pre P h h' R W H σ w → FRel σ f a →
    (∀ σ' H' a' w', FRel σ' f' a' → Step P h h' W H H' σ σ' w w' → Q e.to a' w') → c.wpIn (FW (rd.map σ.b)) 0 P Q a w
theorem CodeOk.mono {rd : Option Nat} {c : Code} {f f' : Fr} {h h' : Heap} {e : Ex} {R W R' W' : Set'} (hc : CodeOk P rd c f h e f' h' R W) (hr : ∀ b, R b → R' b) (hw : ∀ b, W b → W' b) : CodeOk P rd c f h e f' h' R' W' :=
  ⟨hc.1.mono hw, fun H σ w a Q hl p hf hQ => hc.2 H σ w a Q hl (p.mono hr hw) hf fun σ' H' a' w' h1 h2 => hQ σ' H' a' w' h1 (h2.more hc.1 p hw)⟩

theorem vf_push (h : Heap) (o : O) (W : Set') : VF h (h.push o) W := ⟨by simp, fun b hb _ => by rw [Heap.get_push, if_neg (by omega)]⟩
theorem step_push {h : Heap} {o : O} {R W : Set'} {H : HF} {σ : Ren} {w : World} (p : Pre P h (h.push o) R W H σ w) (o' : Obj) (s : Nat) (hd : o.isDead = false) (hr : BRel P (σ.upd h.n ⟨w.heap.size, 0, s⟩) ⟨w.heap.size, 0, s⟩ o (some o')) :
    Step P h (h.push o) W H (HF.upd H h.n o) σ (σ.upd h.n ⟨w.heap.size, 0, s⟩) w (w.alloc o') := by
  have hf := p.fresh h.n ⟨Nat.le_refl _, by simp⟩
  refine ⟨goes_push p.inv hf.1 hf.2 s (fun b => by simp [New]; omega) hd hr, fun b hb => ?_⟩
  rw [Heap.get_push]
  rcases hb with hb | hb
  · have : b = h.n := by simp [New] at hb; omega
    subst this; simp [HF.upd_same]
  · have hne : b ≠ h.n := by have := hb.1; omega
    rw [HF.upd_ne _ _ hne, if_neg hne, p.agree b hb.1 (.inr hb.2)]
theorem vf_set {h : Heap} {b : Nat} (hb : b < h.n) (o : O) {W : Set'} (hW : W b) : VF h (h.set b o) W :=
  ⟨by simp, fun c hc hw => by rw [Heap.get_set h b c o hb, if_neg (show c ≠ b from fun e => hw (e ▸ hW))]⟩
theorem step_set {h : Heap} {b : Nat} {x o : O} {l : Loc} {R W : Set'} {H : HF} {σ : Ren} {w w' : World} (p : Pre P h (h.set b o) R W H σ w) (hg : h.get b = some x) (hx : x.isDead = false) (hW : W b) (hl : σ b = some l)
    (hsz : w'.heap.size = w.heap.size) (hoth : ∀ k, k ≠ l.blk → w'.heap[k]? = w.heap[k]?) (e2 : w'.os = w.os) (e3 : w'.tape = w.tape) (e4 : w'.output = w.output) (hr : BRel P σ l o w'.heap[l.blk]?) (hd : o.isDead = false := by rfl) :
    Step P h (h.set b o) W H (HF.upd H b o) σ σ w w' := by
  have hbn := Heap.get_lt hg
  refine ⟨goes_set p.inv ⟨x, by rw [p.agree b hbn (.inr hW), hg], hx⟩ hl (fun c hc => by simp [New] at hc; omega) ⟨hbn, hW⟩ hsz hoth e2 e3 e4 hr hd, fun c hc => ?_⟩
  rw [Heap.get_set h b c o hbn]
  by_cases e : c = b
  · subst e; simp [HF.upd_same]
  · rw [HF.upd_ne _ _ e, if_neg e]
    rcases hc with hc | hc
    · simp [New] at hc; omega
    · exact p.agree c hc.1 (.inr hc.2)
theorem putObj_size (w : World) (r : Nat) (o : Obj) : (w.putObj r o).heap.size = w.heap.size := by simp [World.putObj]

def loopN (body : Fr → St → Option (Ex × Fr × St)) : Nat → Fr → St → Option (Ex × Fr × St)
  | 0, _, _ => none
  | n + 1, f, s => match body f s with
    | some (.norm, f', s') => loopN body n f' s'
    | r => r

def enterV (rd : Option Nat) (f : Fr) (ps : Array Tmp) (assign body : Code) (s : St) : Option (Nat × Fr × St) := match rd with
  | none => some (s.h.n + 1, ⟨f.tm, s.h.n :: f.mks⟩, s.add ((s.h.push (.deferred true)).push (.loop ⟨.ready, none, f.tm, ps.toList, assign, body, s.h.n⟩)) [] [])
  | some l => match s.h.get l with
    | some (.loop lv) => some (s.h.n, f, s.add (s.h.push (.loop ⟨.ready, none, f.tm, ps.toList, assign, body, lv.defers⟩)) [l] [])
    | _ => none
def endV (L : Nat) (f : Fr) (s : St) : Option (Ex × Fr × St) := match s.h.get L with
  | some (.loop lv) => match lv.state with
    | .busy => none
    | _ => match lv.pending with
      | none => some (.norm, f, s.add (s.h.set L (.loop { lv with state := .exhausted })) [] [L])
      | some .ret => some (.ret, f, s.add (s.h.set L (.loop { lv with state := .exhausted })) [] [L])
      | some (.exit id) => some (.exit id, f, s.add (s.h.set L (.loop { lv with state := .exhausted })) [] [L])
      | _ => none
  | _ => none
def evRange (P : Program) (inv : InvT) (rd : Option Nat) (g : Operand) (ps : Array Tmp) (assign body : Code) (f : Fr) (s : St) : Option (Ex × Fr × St) := match evV f.tm g with
  | some (.func k xs ys) => match callable P k with
    | true => match enterV rd f ps assign body s with
      | some (L, f1, s1) => match inv (.fn k) ((xs ++ [.yield L]) ++ ys) s1 with
        | some (_, s2) => endV L f1 s2
        | none => none
      | none => none
    | false => none
  | _ => none

def evCode (P : Program) (inv : InvT) (L : Nat) (rd : Option Nat) : Code → Fr → St → Option (Ex × Fr × St)
  | .skip, f, s => some (.norm, f, s)
  | .label _, f, s => some (.norm, f, s)
  | .region _ ops draw, f, s => match draw with
    | false => match evOps P inv ops.toList ops.toList f.tm s with
      | some (tm, s') => some (.norm, ⟨tm, f.mks⟩, s')
      | none => none
    | true => match evDraw P inv ops.toList f.tm s with
      | some (tm, s') => some (.norm, ⟨tm, f.mks⟩, s')
      | none => none
  | .seq a b, f, s => match evCode P inv L rd a f s with
    | some (.norm, f', s') => evCode P inv L rd b f' s'
    | r => r
  | .cond c a b, f, s => match evV f.tm c with
    | some (.bool true) => evCode P inv L rd a f s
    | some (.bool false) => evCode P inv L rd b f s
    | _ => none
  | .block id c, f, s => match evCode P inv L rd c f s with
    | some (.exit id', f', s') => match Nat.beq id' id with
      | true => some (.norm, f', s')
      | false => some (.exit id', f', s')
    | r => r
  | .loop c, f, s => loopN (evCode P inv L rd c) L f s
  | .exit id, f, s => some (.exit id, f, s)
  | .ret, f, s => some (.ret, f, s)
  | .scope c, f, s => evCode P inv L rd c f s
  | .rangeFunc g ps assign body, f, s => evRange P inv rd g ps assign body f s
  | _, _, _ => none

theorem enterV_ok {rd : Option Nat} {f f1 : Fr} {ps : Array Tmp} {assign body : Code} {s s1 : St} {L : Nat} (hv : enterV rd f ps assign body s = some (L, f1, s1)) :
    s.le s1 ∧ VF s.h s1.h s1.W ∧ f1.tm = f.tm ∧ ∀ H σ w (a : Act) (fn : FuncId), (∀ l, rd = some l → σ.is l) → Pre P s.h s1.h s1.R s1.W H σ w → FRel σ f a →
      ∃ σ' H' w' mark, (Instr.enterLoop fn a.tmps ps assign body (rd.map σ.b)).run P w = .ok (σ'.b L, mark) w' ∧ FRel σ' f1 { a with defers := mark ++ a.defers } ∧ σ'.is L ∧ Step P s.h s1.h s1.W H H' σ σ' w w' := by
  unfold enterV at hv
  split at hv
  · cases hv
    refine ⟨s.le_add _ _ _, (vf_push _ _ _).trans (vf_push _ _ _), rfl, fun H σ w a fn hl p hf => ?_⟩
    have p1 := p.fst (h₁ := s.h.push (.deferred true)) (by simp [St.add])
    have s1 := step_push p1 (.deferred (some [])) 0 rfl (by simp [BRel])
    have p2 := p.snd (vf_push _ _ _) s1
    have hD : (σ.upd s.h.n ⟨w.heap.size, 0, 0⟩).is s.h.n := on_new _ _ _
    have hle1 := s1.goes.le
    have hfr2 := p2.fresh (s.h.push (.deferred true)).n ⟨Nat.le_refl _, by simp [St.add]⟩
    have hle2 := Ren.le_upd hfr2.1 ⟨(w.alloc (.deferred (some []))).heap.size, 0, 0⟩
    have s2 := step_push p2 (.loop { state := .ready, pending := none, fn, tmps := a.tmps, params := ps, assign, body, defers := w.heap.size }) 0 rfl ⟨_, rfl, rfl, rfl, (hf.tm.le hle1).le hle2, by simp, rfl, rfl, Ren.is_le hle2 hD, by
      rw [Ren.b_le hle2 hD, Ren.b_eq (Ren.upd_same _ _ _)]⟩
    have hs := Step.trans p (vf_push _ _ _) (vf_push _ _ _) s1 s2
    refine ⟨_, _, _, [{ target := .collected w.heap.size, args := #[] }], ?_, ⟨(hf.tm.le hs.goes.le), ?_, fun b hb => ?_⟩, on_new _ _ _, hs⟩
    · have := run_enterLoop_outer (P := P) (w := w) fn a.tmps ps assign body
      simp only [Option.map_none, this]
      have : Ren.b ((σ.upd s.h.n ⟨w.heap.size, 0, 0⟩).upd (s.h.push (.deferred true)).n ⟨(w.alloc (.deferred (some []))).heap.size, 0, 0⟩) (s.h.n + 1) = w.heap.size + 1 := by
        exact (Ren.b_eq (x := s.h.n + 1) (Ren.upd_same _ (s.h.push (.deferred true)).n _)).trans (by simp)
      rw [this]
    · simp only [List.map_cons, List.singleton_append]
      congr 1
      · simp only [markOf]
        rw [Ren.b_le hle2 hD, Ren.b_eq (Ren.upd_same _ _ _)]
      · rw [marks_le hs.goes.le hf.on]; exact hf.mks
    · rcases List.mem_cons.1 hb with rfl | hb
      · exact Ren.is_le hle2 hD
      · exact Ren.is_le hs.goes.le (hf.on b hb)
  · rename_i l
    split at hv
    · rename_i lv hg
      cases hv
      refine ⟨s.le_add _ _ _, vf_push _ _ _, rfl, fun H σ w a fn hl p hf => ?_⟩
      have hln := Heap.get_lt hg
      have hHl : H l = some (.loop lv) := by rw [p.agree l hln (.inl (s.add_R _ _ _ l (by simp))), hg]
      obtain ⟨loc, hloc, lp, hw, hrel⟩ := p.inv.rel l _ hHl rfl
      have hfr := p.fresh s.h.n ⟨Nat.le_refl _, by simp [St.add]⟩
      have hle := Ren.le_upd hfr.1 ⟨w.heap.size, 0, 0⟩
      have hs := step_push p (.loop { state := .ready, pending := none, fn, tmps := a.tmps, params := ps, assign, body, defers := lp.defers }) 0 rfl ⟨_, rfl, rfl, rfl, hf.tm.le hle, by simp, rfl, rfl, Ren.is_le hle hrel.defers.1, by
        rw [Ren.b_le hle hrel.defers.1]; exact hrel.defers.2⟩
      refine ⟨_, _, _, [], ?_, hf.le hs.goes.le, on_new _ _ _, hs⟩
      rw [Ren.b_eq (Ren.upd_same _ _ _)]
      have hw' : w.heap[σ.b l]? = some (.loop lp) := by rw [Ren.b_eq hloc]; exact hw
      simp [Instr.enterLoop, run_getLoop hw']
    · cases hv

theorem endV_ok {f f' : Fr} {s s' : St} {L : Nat} {e : Ex} (hv : endV L f s = some (e, f', s')) :
    s.le s' ∧ VF s.h s'.h s'.W ∧ f' = f ∧ ∀ H σ w, Pre P s.h s'.h s'.R s'.W H σ w →
      ∃ H' w' jump, (Instr.endLoop (σ.b L)).run P w = .ok jump w' ∧ Step P s.h s'.h s'.W H H' σ σ w w' ∧ (match e with | .norm => jump = none | .ret => jump = some .ret | .exit id => jump = some (.exit id)) := by
  have key : ∀ lv, s.h.get L = some (.loop lv) → lv.state ≠ .busy → VF s.h (s.h.set L (.loop { lv with state := .exhausted })) (s.add (s.h.set L (.loop { lv with state := .exhausted })) [] [L]).W ∧ ∀ H σ w, Pre P s.h (s.h.set L (.loop { lv with state := .exhausted })) (s.add (s.h.set L (.loop { lv with state := .exhausted })) [] [L]).R (s.add (s.h.set L (.loop { lv with state := .exhausted })) [] [L]).W H σ w →
      ∃ H' w', (Instr.endLoop (σ.b L)).run P w = .ok lv.pending w' ∧ Step P s.h (s.h.set L (.loop { lv with state := .exhausted })) (s.add (s.h.set L (.loop { lv with state := .exhausted })) [] [L]).W H H' σ σ w w' := by
    intro lv hg hb
    have hln := Heap.get_lt hg
    have hW : (s.add (s.h.set L (.loop { lv with state := .exhausted })) [] [L]).W L := s.add_W _ _ _ L (by simp)
    refine ⟨vf_set hln _ hW, fun H σ w p => ?_⟩
    have hHl : H L = some (.loop lv) := by rw [p.agree L hln (.inr hW), hg]
    obtain ⟨loc, hloc, lp, hw, hrel⟩ := p.inv.rel L _ hHl rfl
    have hlt : loc.blk < w.heap.size := (Array.getElem?_eq_some_iff.1 hw).1
    refine ⟨_, _, ?_, step_set (w' := w.putObj loc.blk (.loop { lp with state := .exhausted })) p hg rfl hW hloc (putObj_size _ _ _) (fun k hk => World.putObj_heap_other hk) rfl rfl rfl ?_⟩
    · rw [Ren.b_eq hloc, run_endLoop hw (by rw [hrel.state]; exact hb), hrel.pending]
    · rw [World.putObj_heap_same hlt]
      exact ⟨_, rfl, { hrel with state := rfl }⟩
  unfold endV at hv
  split at hv
  · rename_i lv hg
    split at hv
    · cases hv
    · rename_i hb
      obtain ⟨k1, k2⟩ := key lv hg hb
      split at hv
      · rename_i hp; cases hv
        exact ⟨s.le_add _ _ _, k1, rfl, fun H σ w p => let ⟨H', w', h1, h2⟩ := k2 H σ w p; ⟨H', w', _, h1, h2, hp⟩⟩
      · rename_i hp; cases hv
        exact ⟨s.le_add _ _ _, k1, rfl, fun H σ w p => let ⟨H', w', h1, h2⟩ := k2 H σ w p; ⟨H', w', _, h1, h2, hp⟩⟩
      · rename_i id hp; cases hv
        exact ⟨s.le_add _ _ _, k1, rfl, fun H σ w p => let ⟨H', w', h1, h2⟩ := k2 H σ w p; ⟨H', w', _, h1, h2, hp⟩⟩
      · cases hv
  · cases hv

theorem evRange_ok {inv : InvT} (hi : InvGood P inv) {rd : Option Nat} {g : Operand} {ps : Array Tmp} {assign body : Code} {f f' : Fr} {s s' : St} {e : Ex} (hv : evRange P inv rd g ps assign body f s = some (e, f', s')) :
    s.le s' ∧ CodeOk P rd (.rangeFunc g ps assign body) f s.h e f' s'.h s'.R s'.W := by
  unfold evRange at hv
  split at hv
  · rename_i k xs ys hg
    split at hv
    · rename_i hc
      split at hv
      · rename_i L f1 s1 he
        split at hv
        · rename_i v2 s2 h2
          obtain ⟨l1, vf1, ht1, ok1⟩ := enterV_ok (P := P) he
          have l2 := hi.le _ _ _ _ _ h2
          have ok2 := hi.fn _ _ _ _ _ h2
          obtain ⟨l3, vf3, hf', ok3⟩ := endV_ok (P := P) hv
          subst hf'
          have vf1' := vf1.mono (St.le_trans l2 l3).W
          have ok2' := ok2.mono l3.R l3.W
          have vf12 := vf1'.trans ok2'.1
          refine ⟨St.le_trans l1 (St.le_trans l2 l3), vf12.trans vf3, fun H σ w a Q hl p hf hQ => ?_⟩
          refine wpIn_rangeFunc fun fn _ => ?_
          have p1 := (p.fst (h₁ := s1.h) (Nat.le_trans ok2'.1.n vf3.n)).mono (St.le_trans l2 l3).R (St.le_trans l2 l3).W
          obtain ⟨σ1, H1, w1, mark, hrun, hf1, hL, hs1⟩ := ok1 H σ w a fn hl p1 hf
          have hs1' := hs1.more vf1 (p.fst (h₁ := s1.h) (Nat.le_trans ok2'.1.n vf3.n)) (St.le_trans l2 l3).W
          have hg' : evV f'.tm g = some (.func k xs ys) := by rw [ht1]; exact hg
          have hgv : VRel σ1 (.func k xs ys) (({ a with defers := mark ++ a.defers } : Act).eval g) := ev_tmps _ (fun t u _ hu => hf1.tm.2 t u hu) hg'
          have hgv' : a.eval g = (V.func k xs ys).re σ1 := by rw [← hgv.2]; cases g <;> rfl
          refine ⟨σ1.b L, mark, w1, { target := .fn (.func k) (V.reL σ1 ys).toArray, args := (V.reL σ1 xs).toArray ++ #[.func (.yield (σ1.b L)) #[] #[]] }, w1, k, (V.reL σ1 ((xs ++ [.yield L]) ++ ys)).toArray, w1, hrun, ?_, fun _ _ => trivial, ?_, fun h => (by cases h), ?_⟩
          · simp only [resolve, rangeCall, hgv', V.re, Deferred.ofValue, Sem.run_pure]
            simp [Act.eval]
          · simp only [invoke]
            rw [run_callable hc]
            simp [reL_append, V.reL, V.re]
          · have p2 := p.snd vf1' hs1'
            refine CallsIn.mono (ok2'.2 H1 σ1 w1 (p2.fst vf3.n) (onL_append (onL_append hgv.1.1 ⟨hL, trivial⟩) hgv.1.2)) ?_
            rintro e2 w2 ⟨x, σ2, H2, rfl, hx, hs2⟩
            have p3 := p2.snd ok2'.1 hs2
            obtain ⟨H3, w3, jump, hend, hs3, hj⟩ := ok3 H2 σ2 w2 p3
            have hLb : σ2.b L = σ1.b L := Ren.b_le hs2.goes.le hL
            rw [hLb] at hend
            refine ⟨jump, w3, hend, ?_⟩
            have hfin := hQ σ2 H3 _ w3 (hf1.le hs2.goes.le) (Step.trans p vf12 vf3 (Step.trans (p.fst vf3.n) vf1' ok2'.1 hs1' hs2) hs3)
            cases e with
            | norm => simp only at hj; subst hj; exact hfin
            | ret => simp only at hj; subst hj; exact wpIn_ret hfin
            | exit id => simp only at hj; subst hj; exact wpIn_exit hfin
        · cases hv
      · cases hv
    · cases hv
  · cases hv

theorem evCode_ok (hm : P.follows .mixedOrders = true) {inv : InvT} (hi : InvGood P inv) (L : Nat) (rd : Option Nat) : ∀ (c : Code) (f f' : Fr) (s s' : St) (e : Ex), evCode P inv L rd c f s = some (e, f', s') →
    s.le s' ∧ CodeOk P rd c f s.h e f' s'.h s'.R s'.W := by
  intro c
  induction c with
  | skip =>
    intro f f' s s' e hv
    simp only [evCode] at hv; cases hv
    exact ⟨St.le_refl _, VF.refl _ _, fun H σ w a Q hl p hf hQ => wpIn_skip (hQ σ H a w hf (Step.refl p.inv fun b hb hw => p.agree b hb (.inr hw)))⟩
  | label l =>
    intro f f' s s' e hv
    simp only [evCode] at hv; cases hv
    exact ⟨St.le_refl _, VF.refl _ _, fun H σ w a Q hl p hf hQ => wpIn_label (hQ σ H a w hf (Step.refl p.inv fun b hb hw => p.agree b hb (.inr hw)))⟩
  | exit id =>
    intro f f' s s' e hv
    simp only [evCode] at hv; cases hv
    exact ⟨St.le_refl _, VF.refl _ _, fun H σ w a Q hl p hf hQ => wpIn_exit (hQ σ H a w hf (Step.refl p.inv fun b hb hw => p.agree b hb (.inr hw)))⟩
  | ret =>
    intro f f' s s' e hv
    simp only [evCode] at hv; cases hv
    exact ⟨St.le_refl _, VF.refl _ _, fun H σ w a Q hl p hf hQ => wpIn_ret (hQ σ H a w hf (Step.refl p.inv fun b hb hw => p.agree b hb (.inr hw)))⟩
  | goto l => intro f f' s s' e hv; simp only [evCode] at hv; cases hv
  | refuse why => intro f f' s s' e hv; simp only [evCode] at hv; cases hv
  | region id ops draw =>
    intro f f' s s' e hv
    simp only [evCode] at hv
    split at hv
    · split at hv
      · rename_i tm s1 h1
        cases hv
        obtain ⟨l1, vf1, ok1⟩ := evOps_ok hi ops ops.toList 0 _ _ _ _ (by simp) h1
        refine ⟨l1, vf1, fun H σ w a Q hl p hf hQ => wpIn_region ?_⟩
        have := ok1 (rd.map σ.b) H σ w a Q p hf.tm fun σ' H' a' w' hd ht hs => hQ σ' H' a' w' ⟨ht, by rw [hd, marks_le hs.goes.le hf.on]; exact hf.mks, fun b hb => Ren.is_le hs.goes.le (hf.on b hb)⟩ hs
        simpa [List.range_eq_range'] using this
      · cases hv
    · split at hv
      · rename_i tm s1 h1
        cases hv
        obtain ⟨l1, vf1, ok1⟩ := evDraw_ok hm hi ops h1
        refine ⟨l1, vf1, fun H σ w a Q hl p hf hQ => ?_⟩
        exact ok1 (rd.map σ.b) id H σ w a Q p hf.tm fun σ' H' a' w' hd ht hs => hQ σ' H' a' w' ⟨ht, by rw [hd, marks_le hs.goes.le hf.on]; exact hf.mks, fun b hb => Ren.is_le hs.goes.le (hf.on b hb)⟩ hs
      · cases hv
  | seq x y ihx ihy =>
    intro f f' s s' e hv
    simp only [evCode] at hv
    split at hv
    · rename_i f1 s1 h1
      obtain ⟨l1, ok1⟩ := ihx _ _ _ _ _ h1
      obtain ⟨l2, ok2⟩ := ihy _ _ _ _ _ hv
      have ok1' := ok1.mono l2.R l2.W
      refine ⟨St.le_trans l1 l2, ok1'.1.trans ok2.1, fun H σ w a Q hl p hf hQ => wpIn_seq ?_⟩
      refine ok1'.2 H σ w a _ hl (p.fst ok2.1.n) hf fun σ1 H1 a1 w1 hf1 hs1 => ?_
      have hrd : FW (rd.map σ1.b) = FW (rd.map σ.b) := by
        cases rd with
        | none => rfl
        | some l => simp only [Option.map_some]; rw [Ren.b_le hs1.goes.le (hl l rfl)]
      have := ok2.2 H1 σ1 w1 a1 Q (fun l h => Ren.is_le hs1.goes.le (hl l h)) (p.snd ok1'.1 hs1) hf1 fun σ2 H2 a2 w2 hf2 hs2 => hQ σ2 H2 a2 w2 hf2 (Step.trans p ok1'.1 ok2.1 hs1 hs2)
      rw [hrd] at this
      exact this
    · rename_i r hne
      obtain ⟨l1, ok1⟩ := ihx _ _ _ _ _ hv
      refine ⟨l1, ok1.1, fun H σ w a Q hl p hf hQ => wpIn_seq ?_⟩
      refine ok1.2 H σ w a _ hl p hf fun σ1 H1 a1 w1 hf1 hs1 => ?_
      have := hQ σ1 H1 a1 w1 hf1 hs1
      cases e with
      | norm => exact absurd hv (hne _ _)
      | ret => exact this
      | exit id => exact this
  | cond c x y ihx ihy =>
    intro f f' s s' e hv
    simp only [evCode] at hv
    split at hv
    · rename_i hc
      obtain ⟨l1, ok1⟩ := ihx _ _ _ _ _ hv
      refine ⟨l1, ok1.1, fun H σ w a Q hl p hf hQ => ?_⟩
      have hcv : VRel σ (.bool true) (a.eval c) := by obtain ⟨tmps, ds⟩ := a; exact ev_tmps ds (fun t u _ hu => hf.tm.2 t u hu) hc
      exact wpIn_cond_true hcv.2 (ok1.2 H σ w a Q hl p hf hQ)
    · rename_i hc
      obtain ⟨l1, ok1⟩ := ihy _ _ _ _ _ hv
      refine ⟨l1, ok1.1, fun H σ w a Q hl p hf hQ => ?_⟩
      have hcv : VRel σ (.bool false) (a.eval c) := by obtain ⟨tmps, ds⟩ := a; exact ev_tmps ds (fun t u _ hu => hf.tm.2 t u hu) hc
      exact wpIn_cond_false hcv.2 (ok1.2 H σ w a Q hl p hf hQ)
    · cases hv
  | block id x ih =>
    intro f f' s s' e hv
    simp only [evCode] at hv
    split at hv
    · rename_i id' f1 s1 h1
      obtain ⟨l1, ok1⟩ := ih _ _ _ _ _ h1
      split at hv
      · rename_i hb
        cases hv
        refine ⟨l1, ok1.1, fun H σ w a Q hl p hf hQ => wpIn_block ?_⟩
        refine ok1.2 H σ w a _ hl p hf fun σ1 H1 a1 w1 hf1 hs1 => ?_
        have := hQ σ1 H1 a1 w1 hf1 hs1
        simpa [Ex.to, Exit.inBlock, Nat.eq_of_beq_eq_true hb] using this
      · rename_i hb
        cases hv
        refine ⟨l1, ok1.1, fun H σ w a Q hl p hf hQ => wpIn_block ?_⟩
        refine ok1.2 H σ w a _ hl p hf fun σ1 H1 a1 w1 hf1 hs1 => ?_
        have := hQ σ1 H1 a1 w1 hf1 hs1
        have hne : id' ≠ id := fun e => by subst e; simp at hb
        simpa [Ex.to, Exit.inBlock, hne] using this
    · rename_i r hne
      obtain ⟨l1, ok1⟩ := ih _ _ _ _ _ hv
      refine ⟨l1, ok1.1, fun H σ w a Q hl p hf hQ => wpIn_block ?_⟩
      refine ok1.2 H σ w a _ hl p hf fun σ1 H1 a1 w1 hf1 hs1 => ?_
      have := hQ σ1 H1 a1 w1 hf1 hs1
      cases e with
      | norm => exact this
      | ret => exact this
      | exit id' => exact absurd hv (hne _ _ _)
  | loop x ih =>
    intro f f' s s' e hv
    simp only [evCode] at hv
    have key : ∀ (k : Nat) (f : Fr) (s : St), loopN (evCode P inv L rd x) k f s = some (e, f', s') → s.le s' ∧ VF s.h s'.h s'.W ∧ ∀ H σ w a Q, (∀ l, rd = some l → σ.is l) → Pre P s.h s'.h s'.R s'.W H σ w → FRel σ f a →
        (∀ σ' H' a' w', FRel σ' f' a' → Step P s.h s'.h s'.W H H' σ σ' w w' → Q e.to a' w') → LoopIn (FW (rd.map σ.b)) 0 P x Q a w := by
      intro k
      induction k with
      | zero => intro f s h; simp only [loopN] at h; cases h
      | succ k ihk =>
        intro f s h
        simp only [loopN] at h
        split at h
        · rename_i f1 s1 h1
          obtain ⟨l1, ok1⟩ := ih _ _ _ _ _ h1
          obtain ⟨l2, vf2, ok2⟩ := ihk _ _ h
          have ok1' := ok1.mono l2.R l2.W
          refine ⟨St.le_trans l1 l2, ok1'.1.trans vf2, fun H σ w a Q hl p hf hQ => loopIn_round ?_⟩
          refine ok1'.2 H σ w a _ hl (p.fst vf2.n) hf fun σ1 H1 a1 w1 hf1 hs1 => ?_
          have hrd : FW (rd.map σ1.b) = FW (rd.map σ.b) := by
            cases rd with
            | none => rfl
            | some l => simp only [Option.map_some]; rw [Ren.b_le hs1.goes.le (hl l rfl)]
          have := ok2 H1 σ1 w1 a1 Q (fun l h => Ren.is_le hs1.goes.le (hl l h)) (p.snd ok1'.1 hs1) hf1 fun σ2 H2 a2 w2 hf2 hs2 => hQ σ2 H2 a2 w2 hf2 (Step.trans p ok1'.1 vf2 hs1 hs2)
          rw [hrd] at this
          exact this
        · rename_i r hne
          obtain ⟨l1, ok1⟩ := ih _ _ _ _ _ h
          refine ⟨l1, ok1.1, fun H σ w a Q hl p hf hQ => loopIn_round ?_⟩
          refine ok1.2 H σ w a _ hl p hf fun σ1 H1 a1 w1 hf1 hs1 => ?_
          have := hQ σ1 H1 a1 w1 hf1 hs1
          cases e with
          | norm => exact absurd h (hne _ _)
          | ret => exact this
          | exit id => exact this
    obtain ⟨l1, vf1, ok1⟩ := key L f s hv
    exact ⟨l1, vf1, fun H σ w a Q hl p hf hQ => wpIn_loopIn (ok1 H σ w a Q hl p hf hQ)⟩
  | scope x ih =>
    intro f f' s s' e hv
    simp only [evCode] at hv
    obtain ⟨l1, ok1⟩ := ih _ _ _ _ _ hv
    refine ⟨l1, ok1.1, fun H σ w a Q hl p hf hQ => wpIn_scope ?_⟩
    refine ok1.2 H σ w a _ hl p hf fun σ1 H1 a1 w1 hf1 hs1 => ?_
    have := hQ σ1 H1 a1 w1 hf1 hs1
    cases e <;> exact this
  | rangeFunc g ps assign body _ _ =>
    intro f f' s s' e hv
    simp only [evCode] at hv
    exact evRange_ok hi hv

end Go.Vm
set_option linter.unusedVariables false
set_option linter.unusedSimpArgs false
namespace Go.Vm
variable {P : Program}

def setL (tm : Tm) : Nat → List V → Tm
  | _, [] => tm
  | i, v :: r => setL (tm.set i v) (i + 1) r
def initTm (n : Nat) (args : List V) : Tm := setL ⟨args.length + (n - args.length), .nil⟩ 0 args
theorem setL_n (l : List V) : ∀ (tm : Tm) (k : Nat), (setL tm k l).n = tm.n := by
  induction l with
  | nil => intro tm k; rfl
  | cons v r ih => intro tm k; simp [setL, ih, Tm.n_set]
theorem setL_get (l : List V) : ∀ (tm : Tm) (k i : Nat), k + l.length ≤ tm.n → (setL tm k l).get i = if k ≤ i ∧ i < k + l.length then l[i - k]? else tm.get i := by
  induction l with
  | nil => intro tm k i _; simp [setL]; omega
  | cons v r ih =>
    intro tm k i h
    simp only [List.length_cons] at h
    simp only [setL, List.length_cons]
    rw [ih _ _ _ (by rw [Tm.n_set]; omega), Tm.get_set _ _ _ _ (by omega)]
    by_cases h1 : k + 1 ≤ i ∧ i < k + 1 + r.length
    · rw [if_pos h1, if_pos (by omega), show i - k = (i - (k + 1)) + 1 by omega]; simp
    · rw [if_neg h1]
      by_cases h2 : i = k
      · subst h2; simp
      · rw [if_neg h2, if_neg (by omega)]
theorem initTm_rel {σ : Ren} {args : List V} (hon : V.onL σ args) (n : Nat) : TRel σ (initTm n args) ((V.reL σ args).toArray ++ Array.replicate (n - (V.reL σ args).toArray.size) undef) := by
  have hsz : (V.reL σ args).toArray.size = args.length := by simp [V.reL_eq]
  refine ⟨by simp [initTm, setL_n, V.reL_eq], fun i v hv => ?_⟩
  rw [initTm, setL_get _ _ _ _ (by simp)] at hv
  by_cases h : 0 ≤ i ∧ i < 0 + args.length
  · rw [if_pos h, Nat.sub_zero] at hv
    refine ⟨(V.onL_iff _ _).1 hon v (List.mem_of_getElem? hv), ?_⟩
    have hi : i < (V.reL σ args).toArray.size := by rw [hsz]; omega
    rw [Array.getD_eq_getD_getElem?, Array.getElem?_append_left hi]
    simp [V.reL_eq, hv]
  · rw [if_neg h] at hv
    simp [Tm.get, Tr.get_nil] at hv

theorem run_loadV {h : Heap} {t : TypeId} {b off : Nat} {v : V} (hv : loadV P t h b off = some v) {H : HF} {σ : Ren} {w : World} (hi : Inv P H σ w) (hH : H b = h.get b) : v.on σ ∧ (loadVar t (reA σ (b, off))).run P w = .ok (v.re σ) w := by
  unfold loadV at hv
  split at hv
  · rename_i c e hg
    split at hv
    · rename_i ha
      split at hv
      · rename_i n hn
        split at hv
        · rename_i hle
          cases hv
          have h2 := loadCells_rel hi (by rw [hH, hg]) off n (Nat.le_of_ble_eq_true hle)
          exact ⟨h2.1, by simp [loadVar, run_aggV ha, run_szV hn, h2.2, V.re]⟩
        · cases hv
      · cases hv
    · rename_i ha
      split at hv
      · rename_i hlt
        cases hv
        have h2 := cell_of_rel hi (show H b = some (.cells c e) by rw [hH, hg]) (Nat.blt_eq.mp hlt)
        exact ⟨h2.1, by simp [loadVar, run_aggV ha, load, Sem.run, h2.2]⟩
      · cases hv
    · cases hv
  · cases hv
theorem loadV_lt {h : Heap} {t : TypeId} {b off : Nat} {v : V} (hv : loadV P t h b off = some v) : b < h.n := by
  unfold loadV at hv
  split at hv
  · rename_i hg; exact Heap.get_lt hg
  · cases hv

def evRes (P : Program) (tm : Tm) (h : Heap) : List ResultVar → Option (List V × List Nat)
  | [] => some ([], [])
  | .tmp t :: r => match tm.get t with
    | some v => match evRes P tm h r with
      | some (vs, rs) => some (v :: vs, rs)
      | none => none
    | none => none
  | .cell a t :: r => match tm.get a with
    | some (.ptr (some (b, off))) => match loadV P t h b off with
      | some v => match evRes P tm h r with
        | some (vs, rs) => some (v :: vs, b :: rs)
        | none => none
      | none => none
    | _ => none
def retV : List V → V
  | [v] => v
  | vs => .tuple vs
theorem evRes_ok {tm : Tm} {h : Heap} {H : HF} {σ : Ren} {w : World} {arr : Array Value} (hi : Inv P H σ w) (ht : TRel σ tm arr) (g : ResultVar → Sem Value) (hg1 : ∀ t, g (.tmp t) = pure (arr.getD t undef)) (hg2 : ∀ a t, g (.cell a t) = do loadVar t (← asAddr (arr.getD a undef))) :
    ∀ (l : List ResultVar) (vs : List V) (rs : List Nat), evRes P tm h l = some (vs, rs) → (∀ b ∈ rs, H b = h.get b) → V.onL σ vs ∧ (l.mapM g).run P w = .ok (V.reL σ vs) w
  | [], vs, rs, hv, _ => by cases hv; exact ⟨trivial, by simp [V.reL]⟩
  | .tmp t :: r, vs, rs, hv, hr => by
    unfold evRes at hv
    split at hv
    · rename_i v hvt
      split at hv
      · rename_i us rs' hu
        cases hv
        have h1 := ht.2 t v hvt
        have h2 := evRes_ok hi ht g hg1 hg2 r us rs hu hr
        exact ⟨⟨h1.1, h2.1⟩, by simp [List.mapM_cons, hg1, h1.2, h2.2, V.reL]⟩
      · cases hv
    · cases hv
  | .cell a t :: r, vs, rs, hv, hr => by
    unfold evRes at hv
    split at hv
    · rename_i b off hvt
      split at hv
      · rename_i v hl
        split at hv
        · rename_i us rs' hu
          cases hv
          have h1 := ht.2 a _ hvt
          have h2 := evRes_ok hi ht g hg1 hg2 r us rs' hu (fun c hc => hr c (by simp [hc]))
          have h3 := run_loadV hl hi (hr b (by simp))
          refine ⟨⟨h3.1, h2.1⟩, ?_⟩
          rw [List.mapM_cons]
          simp only [hg2, h1.2, V.re, Option.map_some, asAddr, Sem.run_bind, Sem.run_pure, Result.andThen_ok, h3.2, h2.2, V.reL]
        · cases hv
      · cases hv
    · cases hv
theorem evRes_lt {tm : Tm} {h : Heap} : ∀ (l : List ResultVar) (vs : List V) (rs : List Nat), evRes P tm h l = some (vs, rs) → ∀ b ∈ rs, b < h.n
  | [], vs, rs, hv => by cases hv; simp
  | .tmp t :: r, vs, rs, hv => by
    unfold evRes at hv
    split at hv
    · split at hv
      · rename_i us rs' hu; cases hv; exact evRes_lt r us rs hu
      · cases hv
    · cases hv
  | .cell a t :: r, vs, rs, hv => by
    unfold evRes at hv
    split at hv
    · split at hv
      · rename_i v hl
        split at hv
        · rename_i us rs' hu; cases hv
          intro c hc
          rcases List.mem_cons.1 hc with rfl | hc
          · exact loadV_lt hl
          · exact evRes_lt r us rs' hu c hc
        · cases hv
      · cases hv
    · cases hv
theorem retV_rel {σ : Ren} {vs : List V} (hon : V.onL σ vs) : (retV vs).on σ ∧ (if h : (V.reL σ vs).toArray.size = 1 then (V.reL σ vs).toArray[0] else Value.tuple (V.reL σ vs).toArray) = (retV vs).re σ := by
  match vs, hon with
  | [], _ => exact ⟨trivial, by simp [V.reL, retV, V.re]⟩
  | [v], h => exact ⟨h.1, by simp [V.reL, retV]⟩
  | v :: u :: r, h => exact ⟨h, by simp [V.reL, retV, V.re]⟩

def takeM : List Nat → St → Option St
  | [], s => some s
  | b :: r, s => match s.h.get b with
    | some (.deferred true) => takeM r (s.add (s.h.set b (.deferred false)) [] [b])
    | _ => none
theorem takeM_ok : ∀ (mks : List Nat) (s s' : St), takeM mks s = some s' → s.le s' ∧ VF s.h s'.h s'.W ∧ ∀ fn tmps (Rr : Ending → World → Prop) H σ w, Pre P s.h s'.h s'.R s'.W H σ w → (∀ b ∈ mks, σ.is b) →
      (∀ H' w', Step P s.h s'.h s'.W H H' σ σ w w' → ∃ v, (results fn tmps).run P w' = .ok v w' ∧ Rr (.returned v) w') → LeavesInM (FW none) 0 P fn tmps Rr (mks.map (markOf σ)) .returning w
  | [], s, s', hv => by
    cases hv
    refine ⟨St.le_refl _, VF.refl _ _, fun fn tmps Rr H σ w p _ hQ => ?_⟩
    exact hQ H w (Step.refl p.inv fun b hb hw => p.agree b hb (.inr hw))
  | b :: r, s, s', hv => by
    unfold takeM at hv
    split at hv
    · rename_i hg
      obtain ⟨l2, vf2, ok2⟩ := takeM_ok r _ _ hv
      have l1 := s.le_add (s.h.set b (.deferred false)) [] [b]
      have hbn := Heap.get_lt hg
      have hW : s'.W b := l2.W b (s.add_W _ _ _ b (by simp))
      have vf1 : VF s.h (s.h.set b (.deferred false)) s'.W := vf_set hbn _ hW
      refine ⟨St.le_trans l1 l2, vf1.trans vf2, fun fn tmps Rr H σ w p hon hQ => ?_⟩
      have hHb : H b = some (.deferred true) := by rw [p.agree b hbn (.inr hW), hg]
      obtain ⟨loc, hloc, hw⟩ := p.inv.rel b _ hHb rfl
      simp only [BRel, if_true] at hw
      have hlt : loc.blk < w.heap.size := (Array.getElem?_eq_some_iff.1 hw).1
      have p1 := p.fst (h₁ := s.h.set b (.deferred false)) vf2.n
      have hs := step_set (w' := w.putObj loc.blk (.deferred none)) p1 hg rfl hW hloc (putObj_size _ _ _) (fun k hk => World.putObj_heap_other hk) rfl rfl rfl (by rw [World.putObj_heap_same hlt]; simp [BRel])
      refine ⟨by simp, .inl ⟨loc.blk, _, by simp [markOf, Ren.b_eq hloc], run_takeDeferred hw, ?_⟩⟩
      refine ok2 fn tmps Rr _ σ _ (p.snd vf1 hs) (fun c hc => hon c (by simp [hc])) fun H' w' hs' => hQ H' w' (Step.trans p vf1 vf2 hs hs')
    · cases hv

def evFn (P : Program) (inv : InvT) (L : Nat) (f : FuncId) (args : List V) (s : St) : Option (V × St) := match P.funcs[f]? with
  | some fn => match fn.body with
    | some c => match evCode P inv L none c ⟨initTm fn.ntmps args, []⟩ s with
      | some (.exit _, _, _) => none
      | some (_, f1, s1) => match takeM f1.mks s1 with
        | some s2 => match evRes P f1.tm s2.h fn.results.toList with
          | some (vs, rs) => some (retV vs, s2.add s2.h rs [])
          | none => none
        | none => none
      | none => none
    | none => none
  | none => none
theorem evFn_ok (hm : P.follows .mixedOrders = true) {inv : InvT} (hi : InvGood P inv) {L : Nat} {f : FuncId} {args : List V} {s s' : St} {v : V} (hv : evFn P inv L f args s = some (v, s')) : s.le s' ∧ FnOk P f args s.h v s'.h s'.R s'.W := by
  unfold evFn at hv
  split at hv
  · rename_i fn hf
    split at hv
    · rename_i c hb
      split at hv
      · cases hv
      · rename_i e f1 s1 hne hc
        split at hv
        · rename_i s2 ht
          split at hv
          · rename_i vs rs hr
            cases hv
            obtain ⟨l1, ok1⟩ := evCode_ok hm hi L none _ _ _ _ _ _ hc
            obtain ⟨l2, vf2, ok2⟩ := takeM_ok (P := P) _ _ _ ht
            have l3 := s2.le_add s2.h rs []
            have hsame : ∀ b, (s2.add s2.h rs []).W b → s2.W b := fun b hb => hb.imp (fun h => h) fun h => (by
              rcases mem_addF.1 h with h | h
              · simp at h
              · exact h)
            have ok1' := ok1.mono (St.le_trans l2 l3).R (St.le_trans l2 l3).W
            have vf2' : VF s1.h s2.h (s2.add s2.h rs []).W := vf2.mono l3.W
            refine ⟨St.le_trans l1 (St.le_trans l2 l3), ok1'.1.trans vf2', fun H σ w p hon => ?_⟩
            refine callsIn_of_wp_marks hf hb trivial ?_
            refine ok1'.2 H σ w _ _ (fun l h => by cases h) (p.fst vf2.n) ⟨initTm_rel hon fn.ntmps, rfl, fun b h => by cases h⟩ fun σ1 H1 a1 w1 hf1 hs1 => ?_
            have p1 := p.snd ok1'.1 hs1
            have post : LeavesInM (FW none) 0 P fn a1.tmps (fun e w' => ∃ x σ' H', e = .returned x ∧ VRel σ' (retV vs) x ∧ Step P s.h (s2.add s2.h rs []).h (s2.add s2.h rs []).W H H' σ σ' w w') a1.defers .returning w1 := by
              rw [hf1.mks]
              refine ok2 fn a1.tmps _ H1 σ1 w1 (p1.mono l3.R l3.W) hf1.on fun H2 w2 hs2 => ?_
              have hs2' : Step P s1.h s2.h (s2.add s2.h rs []).W H1 H2 σ1 σ1 w1 w2 := hs2.more vf2 p1 l3.W
              have hst := Step.trans p ok1'.1 vf2' hs1 hs2'
              have hread : ∀ b ∈ rs, H2 b = s2.h.get b := by
                intro b hb
                have p2 := p1.snd vf2' hs2'
                exact p2.agree b (evRes_lt _ _ _ hr b hb) (.inl (s2.add_R _ _ _ b hb))
              have hres := evRes_ok (P := P) hs2'.goes.inv hf1.tm (fun | .tmp t => pure (a1.tmps.getD t undef) | .cell a t => do loadVar t (← asAddr (a1.tmps.getD a undef))) (fun _ => rfl) (fun _ _ => rfl) _ _ _ hr hread
              have hret := retV_rel hres.1
              refine ⟨(retV vs).re σ1, ?_, _, σ1, H2, rfl, ⟨hret.1, rfl⟩, hst⟩
              simp only [results, Array.mapM_eq_mapM_toList, Sem.run_bind]
              simp only [map_eq_pure_bind, Sem.run_bind, Sem.run_pure]
              rw [(evRes_ok (P := P) hs2'.goes.inv hf1.tm _ (fun _ => rfl) (fun _ _ => rfl) _ _ _ hr hread).2]
              simp only [Result.andThen_ok]
              rw [hret.2]
            cases e with
            | norm => exact post
            | ret => exact post
            | exit id => exact absurd rfl (hne id)
          · cases hv
        · cases hv
      · cases hv
    · cases hv
  · cases hv

def setPs (tm : Tm) : List Tmp → List V → Option Tm
  | [], [] => some tm
  | t :: ts, v :: vs => setPs (tm.set t v) ts vs
  | _, _ => none
theorem setPs_rel {σ : Ren} : ∀ (ps : List Tmp) (vs : List V) (tm tm' : Tm) (arr : Array Value), setPs tm ps vs = some tm' → TRel σ tm arr → V.onL σ vs → ps.length = vs.length ∧ TRel σ tm' ((ps.zip (V.reL σ vs)).foldl (fun tmps (x : Tmp × Value) => tmps.setIfInBounds x.1 x.2) arr)
  | [], [], tm, tm', arr, h, ht, _ => by cases h; exact ⟨rfl, ht⟩
  | t :: ts, v :: vs, tm, tm', arr, h, ht, hon => by
    have := setPs_rel ts vs _ _ _ h (ht.set t ⟨hon.1, rfl⟩) hon.2
    exact ⟨by simp [this.1], by simpa [V.reL] using this.2⟩
  | [], _ :: _, tm, tm', arr, h, _, _ => by cases h
  | _ :: _, [], tm, tm', arr, h, _, _ => by cases h
def Ex.jump : Ex → Option Code
  | .norm => none
  | .ret => some .ret
  | .exit id => some (.exit id)
def evYield (P : Program) (inv : InvT) (L : Nat) (l : Nat) (args : List V) (s : St) : Option (V × St) := match s.h.get l with
  | some (.loop lv) => match setPs lv.tmps lv.params args with
    | some tm => match evCode P inv L (some l) lv.assign ⟨tm, []⟩ (s.add s.h [l] []) with
      | some (.norm, f1, s1) => match s1.h.get l with
        | some (.loop lv1) => match lv1.state with
          | .ready => match evCode P inv L (some l) lv.body f1 (s1.add (s1.h.set l (.loop { lv1 with state := .busy })) [] [l]) with
            | some (e, f2, s2) => match s2.h.get l with
              | some (.loop lv2) => some (.bool e.jump.isNone, s2.add (s2.h.set l (.loop { lv2 with state := if e.jump.isNone then .ready else .done, pending := e.jump })) [] [l])
              | _ => none
            | none => none
          | _ => none
        | _ => none
      | _ => none
    | none => none
  | _ => none

theorem evYield_ok (hm : P.follows .mixedOrders = true) {inv : InvT} (hi : InvGood P inv) {L : Nat} {l : Nat} {args : List V} {s s' : St} {v : V} (hv : evYield P inv L l args s = some (v, s')) : s.le s' ∧ RoundOk P l args s.h v s'.h s'.R s'.W := by
  unfold evYield at hv
  split at hv
  · rename_i lv hg
    split at hv
    · rename_i tm htm
      split at hv
      · rename_i f1 s1 h1
        split at hv
        · rename_i lv1 hg1
          split at hv
          · rename_i hready
            split at hv
            · rename_i e f2 s2 h2
              split at hv
              · rename_i lv2 hg2
                cases hv
                have la := s.le_add s.h [l] []
                obtain ⟨l1, ok1⟩ := evCode_ok hm hi L (some l) _ _ _ _ _ _ h1
                have lb := s1.le_add (s1.h.set l (.loop { lv1 with state := .busy })) [] [l]
                obtain ⟨l2, ok2⟩ := evCode_ok hm hi L (some l) _ _ _ _ _ _ h2
                have lc := s2.le_add (s2.h.set l (.loop { lv2 with state := if e.jump.isNone then .ready else .done, pending := e.jump })) [] [l]
                generalize hend : s2.add (s2.h.set l (.loop { lv2 with state := if e.jump.isNone then .ready else .done, pending := e.jump })) [] [l] = s3 at lc
                have hs3 : s3.h = s2.h.set l (.loop { lv2 with state := if e.jump.isNone then .ready else .done, pending := e.jump }) := by rw [← hend]; rfl
                have hl0 := Heap.get_lt hg
                have hl1 := Heap.get_lt hg1
                have hl2 := Heap.get_lt hg2
                have hWc : s3.W l := by rw [← hend]; exact s2.add_W _ _ _ l (by simp)
                have le2 := lc
                have leb := St.le_trans l2 lc
                have le1 := St.le_trans lb leb
                have lea := St.le_trans l1 le1
                have ok1' := ok1.mono le1.R le1.W
                have ok2' := ok2.mono le2.R le2.W
                have vf0 : VF s.h s1.h s3.W := ok1'.1
                have vfb : VF s1.h (s1.h.set l (.loop { lv1 with state := .busy })) s3.W := vf_set hl1 _ hWc
                have vfe : VF s2.h s3.h s3.W := by rw [hs3]; exact vf_set hl2 _ hWc
                have vf2 : VF (s1.h.set l (.loop { lv1 with state := .busy })) s2.h s3.W := ok2'.1
                refine ⟨St.le_trans la lea, ((vf0.trans vfb).trans vf2).trans vfe, fun H σ w p hon his => ?_⟩
                have hRl : s3.R l := lea.R l (s.add_R _ _ _ l (by simp))
                have hHl : H l = some (.loop lv) := by rw [p.agree l hl0 (.inl hRl), hg]
                obtain ⟨loc, hloc, lp, hw, hrel⟩ := p.inv.rel l _ hHl rfl
                have hb : σ.b l = loc.blk := Ren.b_eq hloc
                have hps := setPs_rel (σ := σ) lv.params args lv.tmps tm lp.tmps htm hrel.tmps hon
                refine ⟨lp.fn, (lp.params.zip (V.reL σ args).toArray).foldl (fun tmps (x : Tmp × Value) => tmps.setIfInBounds x.1 x.2) lp.tmps, lp.assign, lp.body, ?_, ?_⟩
                · rw [hb]
                  have := run_yield (P := P) hw (args := (V.reL σ args).toArray) (by rw [hrel.params]; simp [V.reL_eq, hps.1])
                  exact this
                · rw [hb]
                  refine roundIn_of_wpIn trivial ?_
                  rw [hrel.assign, hrel.body]
                  have htr : TRel σ tm ((lp.params.zip (V.reL σ args).toArray).foldl (fun tmps (x : Tmp × Value) => tmps.setIfInBounds x.1 x.2) lp.tmps) := by
                    rw [hrel.params, ← Array.foldl_toList]
                    simpa using hps.2
                  have hF : (FW none).inRound loc.blk = FW ((some l).map σ.b) := by simp [Fence.inRound, FW, hb]
                  rw [hF]
                  have p1 := p.fst (h₁ := s1.h) (Nat.le_trans vfb.n (Nat.le_trans vf2.n vfe.n))
                  refine ok1'.2 H σ w _ _ (fun l' h => by cases h; exact his) p1 ⟨htr, rfl, fun b h => by cases h⟩ fun σ1 H1 a1 w1 hf1 hs1 => ?_
                  have p1' := p.snd vf0 hs1
                  -- the round begins
                  have hH1 : H1 l = some (.loop lv1) := by rw [p1'.agree l hl1 (.inr hWc), hg1]
                  obtain ⟨loc1, hloc1, lp1, hw1, hrel1⟩ := hs1.goes.inv.rel l _ hH1 rfl
                  have hlb1 : loc1 = loc := by have := hs1.goes.le l loc hloc; rw [hloc1] at this; cases this; rfl
                  subst hlb1
                  have hlt1 : loc1.blk < w1.heap.size := (Array.getElem?_eq_some_iff.1 hw1).1
                  have pb := p1'.fst (h₁ := s1.h.set l (.loop { lv1 with state := .busy })) (Nat.le_trans vf2.n vfe.n)
                  have hsb := step_set (w' := w1.putObj loc1.blk (.loop { lp1 with state := .busy })) pb hg1 rfl hWc hloc1 (putObj_size _ _ _) (fun k hk => World.putObj_heap_other hk) rfl rfl rfl (by
                    rw [World.putObj_heap_same hlt1]; exact ⟨_, rfl, { hrel1 with state := rfl }⟩)
                  refine ⟨_, run_beginRound hw1 (by rw [hrel1.state]; exact hready), ?_⟩
                  have pb' := p1'.snd vfb hsb
                  have hF1 : FW ((some l).map σ.b) = FW ((some l).map σ1.b) := by simp [hb, Ren.b_eq hloc1]
                  rw [hF1]
                  refine ok2'.2 _ σ1 _ a1 _ (fun l' h => by cases h; exact ⟨loc1, hloc1⟩) (pb'.fst vfe.n) hf1 fun σ2 H2 a2 w2 hf2 hs2 => ?_
                  have p2' := pb'.snd vf2 hs2
                  -- the round ends
                  have hH2 : H2 l = some (.loop lv2) := by rw [p2'.agree l hl2 (.inr hWc), hg2]
                  obtain ⟨loc2, hloc2, lp2, hw2, hrel2⟩ := hs2.goes.inv.rel l _ hH2 rfl
                  have hlb2 : loc2 = loc1 := by have := hs2.goes.le l loc1 hloc1; rw [hloc2] at this; cases this; rfl
                  subst hlb2
                  have hlt2 : loc2.blk < w2.heap.size := (Array.getElem?_eq_some_iff.1 hw2).1
                  rw [hs3] at p2'
                  have hse := step_set (w' := w2.putObj loc2.blk (.loop { lp2 with state := if e.jump.isNone then .ready else .done, pending := e.jump })) p2' hg2 rfl hWc hloc2 (putObj_size _ _ _) (fun k hk => World.putObj_heap_other hk) rfl rfl rfl (by
                    rw [World.putObj_heap_same hlt2]; exact ⟨_, rfl, { hrel2 with state := rfl, pending := rfl }⟩)
                  rw [← hs3] at hse
                  have hrun := run_endRound (P := P) e.jump hw2
                  have hst := Step.trans p ((vf0.trans vfb).trans vf2) vfe (Step.trans (p.fst vfe.n) (vf0.trans vfb) vf2 (Step.trans (p.fst (Nat.le_trans vf2.n vfe.n)) vf0 vfb hs1 hsb) hs2) hse
                  have fin : ∃ v' w', (Instr.endRound loc2.blk e.jump).run P w2 = .ok v' w' ∧ ∃ x σ' H', Ending.returned v' = .returned x ∧ VRel σ' (.bool e.jump.isNone) x ∧ Step P s.h s3.h s3.W H H' σ σ' w w' :=
                    ⟨_, _, hrun, _, σ2, _, rfl, ⟨trivial, rfl⟩, hst⟩
                  cases e with
                  | norm => exact fin
                  | ret => exact fin
                  | exit id => exact fin
              · cases hv
            · cases hv
          · cases hv
        · cases hv
      · cases hv
    · cases hv
  · cases hv

abbrev Hook := FuncId → List V → Heap → Option Pr
def HookOk (P : Program) (hk : Hook) : Prop := ∀ f args h pr, hk f args h = some pr → FnOk P f args h pr.v pr.h (· ∈ pr.r) (· ∈ pr.w)
def evInvH (P : Program) (hk : Hook) (L : Nat) : Nat → InvT
  | 0, _, _, _ => none
  | n + 1, .fn f, args, s => match hk f args s.h with
    | some pr => some (pr.v, s.add pr.h pr.r pr.w)
    | none => evFn P (evInvH P hk L n) L f args s
  | n + 1, .yield l, args, s => evYield P (evInvH P hk L n) L l args s

theorem evInvH_good (hm : P.follows .mixedOrders = true) {hk : Hook} (hh : HookOk P hk) (L : Nat) : ∀ n, InvGood P (evInvH P hk L n)
  | 0 => ⟨fun _ _ _ _ _ h => (by cases h), fun _ _ _ _ _ h => (by cases h), fun _ _ _ _ _ h => (by cases h)⟩
  | n + 1 => by
    have ih := evInvH_good hm hh L n
    have hfn : ∀ f args s v s', evInvH P hk L (n + 1) (.fn f) args s = some (v, s') → s.le s' ∧ FnOk P f args s.h v s'.h s'.R s'.W := by
      intro f args s v s' h
      simp only [evInvH] at h
      split at h
      · rename_i pr hp
        cases h
        exact ⟨s.le_add _ _ _, (hh f args s.h pr hp).mono (s.add_R _ _ _) (s.add_W _ _ _)⟩
      · exact evFn_ok hm ih h
    refine ⟨fun t args s v s' h => ?_, fun f args s v s' h => (hfn f args s v s' h).2, fun l args s v s' h => (evYield_ok hm ih h).2⟩
    cases t with
    | fn f => exact (hfn f args s v s' h).1
    | yield l => exact (evYield_ok hm ih h).1
def evInv (P : Program) (L : Nat) : Nat → InvT
  | 0, _, _, _ => none
  | n + 1, .fn f, args, s => evFn P (evInv P L n) L f args s
  | n + 1, .yield l, args, s => evYield P (evInv P L n) L l args s

theorem evInv_good (hm : P.follows .mixedOrders = true) (L : Nat) : ∀ n, InvGood P (evInv P L n)
  | 0 => ⟨fun _ _ _ _ _ h => (by cases h), fun _ _ _ _ _ h => (by cases h), fun _ _ _ _ _ h => (by cases h)⟩
  | n + 1 => by
    have ih := evInv_good hm L n
    refine ⟨fun t args s v s' h => ?_, fun f args s v s' h => (evFn_ok hm ih h).2, fun l args s v s' h => (evYield_ok hm ih h).2⟩
    cases t with
    | fn f => exact (evFn_ok hm ih h).1
    | yield l => exact (evYield_ok hm ih h).1

end Go.Vm
set_option linter.unusedVariables false
set_option linter.unusedSimpArgs false
namespace Go.Vm
variable {P : Program}

theorem Goes.below {N : Set'} {H H' : HF} {σ σ' : Ren} {w w' : World} {W : Set'} (g : Goes P N W H H' σ σ' w w') (hW : ∀ b, liveIn H b → ¬ W b) : RowKit.Below w.heap.size w w' :=
  ⟨g.os, g.tape, g.output, g.size, fun k hk => g.real k hk fun b l hb _ _ => hW b hb⟩

theorem calls_closed {f : FuncId} {v : V} {h' : Heap} {R W : Set'} (hf : FnOk P f [] ⟨0, .nil⟩ v h' R W) (w : World) :
    Calls P f #[] w fun e w' => ∃ x σ', e = .returned x ∧ VRel σ' v x ∧ RowKit.Below w.heap.size w w' := by
  have p : Pre P ⟨0, .nil⟩ h' R W (fun _ => none) (fun _ => none) w :=
    ⟨fun b hb => by simp at hb, fun b _ => ⟨rfl, rfl⟩, ⟨fun b o h => (by cases h), fun a b la lb ⟨o, h, _⟩ => (by cases h), ⟨0, fun _ _ => ⟨rfl, rfl⟩⟩⟩⟩
  refine (callsIn_wide (n := 0)).1 (CallsIn.mono (hf.2 _ _ w p trivial) ?_)
  rintro e w' ⟨x, σ', H', rfl, hx, hs⟩
  exact ⟨x, σ', rfl, hx, hs.goes.below fun b ⟨o, h, _⟩ => by cases h⟩

def s0 : St := ⟨⟨0, .nil⟩, 0, [], []⟩
def isTrue : Option (V × St) → Bool
  | some (.bool b, _) => b
  | _ => false
theorem isTrue_some {x : Option (V × St)} (h : isTrue x = true) : ∃ s, x = some (.bool true, s) := by
  unfold isTrue at h
  split at h
  · rename_i b s; exact ⟨s, by rw [h]⟩
  · cases h
end Go.Vm
set_option linter.unusedVariables false
set_option linter.unusedSimpArgs false
namespace Go.Vm
variable {P : Program}

theorem Inv.kept' {H : HF} {σ : Ren} {w w' : World} (hi : Inv P H σ w) (hr : ∀ k, k < w.heap.size → w'.heap[k]? = w.heap[k]?) : Inv P H σ w' := by
  refine ⟨fun b o hb hd => ?_, hi.inj, hi.fin⟩
  obtain ⟨l, hl, hb'⟩ := hi.rel b o hb hd
  refine ⟨l, hl, ?_⟩
  rw [hr _ (hi.lt ⟨o, hb, hd⟩ hl)]
  exact hb'
def V.gnd : V → Bool
  | .bool _ => true
  | .int _ _ => true
  | .str _ => true
  | .ptr none => true
  | .slice none _ _ _ => true
  | .map none => true
  | .nilFunc => true
  | .nilIface => true
  | .tuple [] => true
  | .func _ [] [] => true
  | _ => false
theorem V.gnd_on {v : V} (h : v.gnd = true) (σ τ : Ren) : v.on σ ∧ v.re σ = v.re τ := by
  unfold V.gnd at h
  split at h <;> first | exact ⟨trivial, rfl⟩ | exact ⟨by simp [V.on, V.onL], by simp [V.re, V.reL]⟩ | cases h
def gndL : List V → Bool
  | [] => true
  | v :: r => match v.gnd with
    | true => gndL r
    | false => false
theorem gndL_on {l : List V} (h : gndL l = true) (σ τ : Ren) : V.onL σ l ∧ V.reL σ l = V.reL τ l := by
  induction l with
  | nil => exact ⟨trivial, rfl⟩
  | cons v r ih =>
    unfold gndL at h
    split at h
    · rename_i hv
      have h1 := V.gnd_on hv σ τ
      have h2 := ih h
      exact ⟨⟨h1.1, h2.1⟩, by simp [V.reL, h1.2, h2.2]⟩
    · cases h
theorem FnOk.plain {f : FuncId} {args : List V} {v : V} {h' : Heap} {R W : Set'} (ha : gndL args = true) (hv : v.gnd = true) (hf : FnOk P f args ⟨0, .nil⟩ v h' R W) (h : Heap) (R' W' : Set') : FnOk P f args h v h R' W' := by
  refine ⟨VF.refl h W', fun H σ w p hon => ?_⟩
  have p0 : Pre P ⟨0, .nil⟩ h' R W (fun _ => none) (fun _ => none) w :=
    ⟨fun b hb => by simp at hb, fun b _ => ⟨rfl, rfl⟩, ⟨fun b o h => (by cases h), fun a b la lb ⟨o, h, _⟩ => (by cases h), ⟨0, fun _ _ => ⟨rfl, rfl⟩⟩⟩⟩
  have hg := gndL_on ha (fun _ => none) σ
  have hc := hf.2 (fun _ => none) (fun _ => none) w p0 hg.1
  rw [hg.2] at hc
  refine CallsIn.mono hc ?_
  rintro e w' ⟨x, σ', H', rfl, hx, hs⟩
  have hreal : ∀ k, k < w.heap.size → w'.heap[k]? = w.heap[k]? := fun k hk => hs.goes.real k hk fun b l ⟨o, ho, _⟩ => by cases ho
  have hvv := V.gnd_on hv σ σ'
  refine ⟨x, σ, H, rfl, ⟨hvv.1, hx.2.trans hvv.2.symm⟩, ⟨⟨Ren.le_refl _, fun _ _ h => .inl h, p.inv.kept' hreal, fun _ _ _ => rfl, fun _ _ h => h, fun b l hn => ?_, fun k hk _ => hreal k hk, hs.goes.size, hs.goes.os, hs.goes.tape, hs.goes.output⟩, fun b hb => ?_⟩⟩
  · unfold New at hn; omega
  · rcases hb with hb | hb
    · unfold New at hb; omega
    · exact p.agree b hb.1 (.inr hb.2)

def hkTrue (f : FuncId) : Hook := fun g args h => match Nat.beq g f, args with
  | true, [] => some ⟨.bool true, h, [], []⟩
  | _, _ => none
def hkOr (a b : Hook) : Hook := fun g args h => match a g args h with
  | some r => some r
  | none => b g args h
theorem hkOr_ok {a b : Hook} (ha : HookOk P a) (hb : HookOk P b) : HookOk P (hkOr a b) := by
  intro f args h pr hp
  unfold hkOr at hp
  split at hp
  · rename_i r hr; cases hp; exact ha _ _ _ _ hr
  · exact hb _ _ _ _ hp
end Go.Vm
set_option linter.unusedVariables false
set_option linter.unusedSimpArgs false
namespace Go.Vm
open Go.RowKit Go.WideShapes Go.ChangeShapes
variable {H : Type} {enc : TypeId × Value → H} {P : Program}

def Stood (W W' : World) : Prop := ∀ k, k < W.heap.size → W'.heap[k]? = W.heap[k]?
theorem Stood.mark {W W' : World} (h : Stood W W') {b off : Nat} (hb : b < W.heap.size) : W'.frozen? ⟨b, off, none⟩ = W.frozen? ⟨b, off, none⟩ := by
  unfold World.frozen?
  rw [show W'.heap[(⟨b, off, none⟩ : Addr).block]? = W.heap[(⟨b, off, none⟩ : Addr).block]? from h b hb]

theorem row_post {f : Func} {s : ChangeSpec} {apart fresh handsOn again : Bool} {W W' : World} {args : Array Value} {v : Value} {ds gs : List (DataW H)} {was pa pv : List MemPlace}
    (whole : DataW.Whole enc P f.params.toList s.vars apart W args.toList ds gs was) (below : Below W.heap.size W W')
    (answers : ∀ (b : Nat) (sp : Nat → Bool) (hd : Bool), DataW.TrodAll enc P W' b sp hd f.resultTypes.toList (v.resultList f.resultTypes.size) (s.fn H (ds ++ gs)).results [])
    (handed : ∀ sp : Nat → Bool, (∀ p ∈ was, sp p.block = true) → DataW.TrodAll enc P W' 0 sp true f.params.toList args.toList (s.fn H (ds ++ gs)).args pa)
    (globals : ∀ sp : Nat → Bool, (∀ p ∈ was, sp p.block = true) → DataW.TrodVars enc P W' sp s.vars (s.fn H (ds ++ gs)).vars pv) (parts : was = pa ++ pv)
    (wide : ∀ (j : Nat) (t : TypeId) (r : Value), f.resultTypes[j]? = some t → (v.resultList f.resultTypes.size)[j]? = some r → Value.okWide P W' .any 0 t r) :
    s.post enc P f apart fresh handsOn again W args v W' := by
  subst parts
  have stood : Stood W W' := below.block
  have inOld : ∀ p ∈ pa ++ pv, decide (p.block < W.heap.size) = true := fun p hp => decide_eq_true (whole.lt p hp)
  have atOld : ∀ p ∈ pa ++ pv, (fun b => decide (b < W.heap.size)) p.block = true := inOld
  have again' : [] ++ pa ++ pv = pa ++ pv := rfl
  refine ⟨ds, gs, pa ++ pv, [], pa, pv, whole, answers _ _ _, handed _ atOld, globals _ atOld, World.keptBut_mono (fun p hp => ⟨hp, .inr ?_⟩) (below.frame (· ∈ pa ++ pv)), fun _ => ?_⟩
  · exact List.mem_append.1 hp
  · obtain ⟨_, _, _, _, _, marks, single⟩ := whole
    refine ⟨wide, _, _, ([] ++ pa) ++ pv, ⟨[] ++ pa, pv, trodAll_append (handed _ fun _ _ => rfl) (answers _ _ _), globals _ fun _ _ => rfl, rfl, fun b off hp => ?_, fun ha => single ha⟩, fun p hp _ => hp⟩
    have hp' : MemPlace.cell b off ∈ pa ++ pv := hp
    have hlt : b < W.heap.size := of_decide_eq_true (inOld _ hp')
    rw [stood.mark hlt]
    exact marks b off hp'
end Go.Vm
set_option linter.unusedVariables false
set_option linter.unusedSimpArgs false
namespace Go.Vm
variable {P : Program}

structure MP where
  P : Program
  dem : Bool
instance : Coe Program MP := ⟨fun P => ⟨P, false⟩⟩

structure PreU (P : Program) (h : Heap) (R W : Set') (H : HF) (σ : Ren) (w : World) : Prop where
  agree : ∀ b, b < h.n → R b ∨ W b → H b = h.get b
  fresh : ∀ b, h.n ≤ b → σ b = none ∧ H b = none
  inv : Inv P H σ w
theorem PreU.to {h h' : Heap} {R W : Set'} {H : HF} {σ : Ren} {w : World} (p : PreU P h R W H σ w) : Pre P h h' R W H σ w := ⟨p.agree, fun b hb => p.fresh b hb.1, p.inv⟩
theorem PreU.snd {h h₁ : Heap} {R W : Set'} {H H₁ : HF} {σ σ₁ : Ren} {w w₁ : World} (p : PreU P h R W H σ w) (v₁ : VF h h₁ W) (s : Step P h h₁ W H H₁ σ σ₁ w w₁) : PreU P h₁ R W H₁ σ₁ w₁ where
  agree := ((p.to (h' := h₁)).snd v₁ s).agree
  fresh := fun b hb => by
    have hf := p.fresh b (Nat.le_trans v₁.n hb)
    have hn1 : ¬ New h h₁ b := fun h => by have := h.2; omega
    constructor
    · cases hs : σ₁ b with
      | none => rfl
      | some l =>
        rcases s.goes.dom b l hs with h' | h'
        · rw [hf.1] at h'; cases h'
        · exact absurd h' hn1
    · rw [s.goes.virt b (fun h => by have := h.1; have := v₁.n; omega) hn1]; exact hf.2
  inv := s.goes.inv
theorem PreU.mono {h : Heap} {R W R' W' : Set'} {H : HF} {σ : Ren} {w : World} (p : PreU P h R' W' H σ w) (hr : ∀ b, R b → R' b) (hw : ∀ b, W b → W' b) : PreU P h R W H σ w :=
  ⟨fun b hb h => p.agree b hb (h.imp (hr b) (hw b)), p.fresh, p.inv⟩

def FnD (P : Program) (f : FuncId) (args : List V) (h : Heap) (R W : Set') (Q : V → Heap → Prop) : Prop :=
  ∀ H σ w, PreU P h R W H σ w → V.onL σ args →
    CallsIn (FW none) 0 P f (V.reL σ args).toArray w fun e w' => ∃ x σ' H' v h', Q v h' ∧ VF h h' W ∧ e = .returned x ∧ VRel σ' v x ∧ Step P h h' W H H' σ σ' w w'
def RoundD (P : Program) (l : Nat) (args : List V) (h : Heap) (R W : Set') (Q : V → Heap → Prop) : Prop :=
  ∀ H σ w, PreU P h R W H σ w → V.onL σ args → σ.is l →
    ∃ fn tmps assign body, (Instr.yield (σ.b l) (V.reL σ args).toArray).run P w = .ok (.round (σ.b l) fn tmps assign body) w ∧
      RoundIn (FW none) 0 P (σ.b l) fn tmps assign body w fun e w' => ∃ x σ' H' v h', Q v h' ∧ VF h h' W ∧ e = .returned x ∧ VRel σ' v x ∧ Step P h h' W H H' σ σ' w w'
def OpD (P : Program) (rd : Option Nat) (o : Oper) (tm : Tm) (h : Heap) (R W : Set') (K : V → Heap → Prop) : Prop :=
  ∀ H σ w a (Kr : Act → World → Prop) Q, PreU P h R W H σ w → EvOn σ tm o a.eval →
    (∀ x v h' σ' H' w', K v h' → VF h h' W → VRel σ' v x → Step P h h' W H H' σ σ' w w' → Kr (a.put o.dst x) w') → o.wpIn (FW rd) 0 P a w Kr Q
theorem OpD.of {rd : Option Nat} {o : Oper} {tm : Tm} {h h' : Heap} {v : V} {R W : Set'} {K : V → Heap → Prop} (ho : OpOk P rd o tm h v h' R W) (hk : K v h') : OpD P rd o tm h R W K :=
  fun H σ w a Kr Q p he hK => ho.2 H σ w a Kr Q p.to he fun x σ' H' w' h1 h2 => hK x v h' σ' H' w' hk ho.1 h1 h2
theorem FnD.of {f : FuncId} {args : List V} {h h' : Heap} {v : V} {R W : Set'} {Q : V → Heap → Prop} (hf : FnOk P f args h v h' R W) (hq : Q v h') : FnD P f args h R W Q :=
  fun H σ w p hon => CallsIn.mono (hf.2 H σ w p.to hon) fun e w' ⟨x, σ', H', h1, h2, h3⟩ => ⟨x, σ', H', v, h', hq, hf.1, h1, h2, h3⟩
theorem FnD.mono {f : FuncId} {args : List V} {h : Heap} {R W : Set'} {Q Q' : V → Heap → Prop} (hf : FnD P f args h R W Q) (hq : ∀ v h', Q v h' → VF h h' W → Q' v h') : FnD P f args h R W Q' :=
  fun H σ w p hon => CallsIn.mono (hf H σ w p hon) fun e w' ⟨x, σ', H', v, h', q, vf, h1, h2, h3⟩ => ⟨x, σ', H', v, h', hq v h' q vf, vf, h1, h2, h3⟩
theorem RoundD.mono {l : Nat} {args : List V} {h : Heap} {R W : Set'} {Q Q' : V → Heap → Prop} (hf : RoundD P l args h R W Q) (hq : ∀ v h', Q v h' → VF h h' W → Q' v h') : RoundD P l args h R W Q' :=
  fun H σ w p hon hl => by
    obtain ⟨fn, tmps, assign, body, h1, h2⟩ := hf H σ w p hon hl
    exact ⟨fn, tmps, assign, body, h1, h2.mono fun e w' ⟨x, σ', H', v, h', q, vf, h1, h2, h3⟩ => ⟨x, σ', H', v, h', hq v h' q vf, vf, h1, h2, h3⟩⟩
theorem FnD.foot {f : FuncId} {args : List V} {h : Heap} {R W R' W' : Set'} {Q : V → Heap → Prop} (hf : FnD P f args h R W Q) (hr : ∀ b, R b → R' b) (hw : ∀ b, W b → W' b) : FnD P f args h R' W' Q :=
  fun H σ w p hon => CallsIn.mono (hf H σ w (p.mono hr hw) hon) fun e w' ⟨x, σ', H', v, h', q, vf, h1, h2, h3⟩ => ⟨x, σ', H', v, h', q, vf.mono hw, h1, h2, h3.more vf p.to hw⟩
theorem RoundD.foot {l : Nat} {args : List V} {h : Heap} {R W R' W' : Set'} {Q : V → Heap → Prop} (hf : RoundD P l args h R W Q) (hr : ∀ b, R b → R' b) (hw : ∀ b, W b → W' b) : RoundD P l args h R' W' Q :=
  fun H σ w p hon hl => by
    obtain ⟨fn, tmps, assign, body, h1, h2⟩ := hf H σ w (p.mono hr hw) hon hl
    exact ⟨fn, tmps, assign, body, h1, h2.mono fun e w' ⟨x, σ', H', v, h', q, vf, h1, h2, h3⟩ => ⟨x, σ', H', v, h', q, vf.mono hw, h1, h2, h3.more vf p.to hw⟩⟩

def SF (M : MP) (f : FuncId) (args : List V) (h : Heap) (R W : Set') (Q : V → Heap → Prop) : Prop := match M.dem with
  | false => ∃ v h', Q v h' ∧ FnOk M.P f args h v h' R W
  | true => FnD M.P f args h R W Q
def SY (M : MP) (l : Nat) (args : List V) (h : Heap) (R W : Set') (Q : V → Heap → Prop) : Prop := match M.dem with
  | false => ∃ v h', Q v h' ∧ RoundOk M.P l args h v h' R W
  | true => RoundD M.P l args h R W Q
variable {M : MP}
theorem SF.det {f : FuncId} {args : List V} {h : Heap} {R W : Set'} {Q : V → Heap → Prop} : SF (P : MP) f args h R W Q ↔ ∃ v h', Q v h' ∧ FnOk P f args h v h' R W := Iff.rfl
theorem SF.dem {f : FuncId} {args : List V} {h : Heap} {R W : Set'} {Q : V → Heap → Prop} : SF ⟨P, true⟩ f args h R W Q ↔ FnD P f args h R W Q := Iff.rfl
theorem SF.all {f : FuncId} {args : List V} {h : Heap} {R W : Set'} {Q : V → Heap → Prop} (hf : SF M f args h R W Q) : FnD M.P f args h R W Q := by
  unfold SF at hf
  split at hf
  · obtain ⟨v, h', q, k⟩ := hf; exact FnD.of k q
  · exact hf
theorem SF.any {f : FuncId} {args : List V} {h : Heap} {R W : Set'} {Q : V → Heap → Prop} (hf : SF (M.P : MP) f args h R W Q) : SF M f args h R W Q := by
  obtain ⟨P, d⟩ := M
  cases d
  · exact hf
  · exact SF.all (M := (P : MP)) hf
theorem SF.monoV {f : FuncId} {args : List V} {h : Heap} {R W : Set'} {Q Q' : V → Heap → Prop} (hf : SF M f args h R W Q) (hq : ∀ v h', Q v h' → VF h h' W → Q' v h') : SF M f args h R W Q' := by
  unfold SF at *
  split at hf
  · obtain ⟨v, h', q, k⟩ := hf; exact ⟨v, h', hq v h' q k.1, k⟩
  · exact FnD.mono hf hq
theorem SF.mono {f : FuncId} {args : List V} {h : Heap} {R W : Set'} {Q Q' : V → Heap → Prop} (hf : SF M f args h R W Q) (hq : ∀ v h', Q v h' → Q' v h') : SF M f args h R W Q' := hf.monoV fun v h' q _ => hq v h' q
theorem SF.kept {f : FuncId} {args : List V} {h : Heap} {R W : Set'} {Q : V → Heap → Prop} (hf : SF M f args h R W Q) : SF M f args h R W fun v h' => Q v h' ∧ VF h h' W := hf.monoV fun v h' q vf => ⟨q, vf⟩
theorem SY.monoV {l : Nat} {args : List V} {h : Heap} {R W : Set'} {Q Q' : V → Heap → Prop} (hf : SY M l args h R W Q) (hq : ∀ v h', Q v h' → VF h h' W → Q' v h') : SY M l args h R W Q' := by
  unfold SY at *
  split at hf
  · obtain ⟨v, h', q, k⟩ := hf; exact ⟨v, h', hq v h' q k.1, k⟩
  · exact RoundD.mono hf hq
theorem SY.mono {l : Nat} {args : List V} {h : Heap} {R W : Set'} {Q Q' : V → Heap → Prop} (hf : SY M l args h R W Q) (hq : ∀ v h', Q v h' → Q' v h') : SY M l args h R W Q' := hf.monoV fun v h' q _ => hq v h' q
theorem SF.foot {f : FuncId} {args : List V} {h : Heap} {R W R' W' : Set'} {Q : V → Heap → Prop} (hf : SF M f args h R W Q) (hr : ∀ b, R b → R' b) (hw : ∀ b, W b → W' b) : SF M f args h R' W' Q := by
  unfold SF at *
  split at hf
  · obtain ⟨v, h', q, k⟩ := hf; exact ⟨v, h', q, k.mono hr hw⟩
  · exact FnD.foot hf hr hw
theorem SY.foot {l : Nat} {args : List V} {h : Heap} {R W R' W' : Set'} {Q : V → Heap → Prop} (hf : SY M l args h R W Q) (hr : ∀ b, R b → R' b) (hw : ∀ b, W b → W' b) : SY M l args h R' W' Q := by
  unfold SY at *
  split at hf
  · obtain ⟨v, h', q, k⟩ := hf; exact ⟨v, h', q, k.mono hr hw⟩
  · exact RoundD.foot hf hr hw
theorem SF.at {f : FuncId} {args : List V} {h : Heap} {R W R' W' : Set'} {Q Q' : V → Heap → Prop} (hf : SF M f args h R W Q) (hr : ∀ b, R b → R' b) (hw : ∀ b, W b → W' b) (hq : ∀ v h', Q v h' → Q' v h') : SF M f args h R' W' Q' :=
  (hf.foot hr hw).mono hq

theorem FnOk.below {f : FuncId} {args : List V} {h h' : Heap} {v : V} {R W R' W' : Set'} (hf : FnOk P f args h v h' R W) (hr : ∀ b, b < h.n → R b → R' b) (hw : ∀ b, b < h.n → W b → W' b) : FnOk P f args h v h' R' W' := by
  have h1 : FnOk P f args h v h' (fun b => b < h.n ∧ R b) (fun b => b < h.n ∧ W b) := by
    refine ⟨⟨hf.1.n, fun b hb hnw => hf.1.get b hb fun h => hnw ⟨hb, h⟩⟩, fun H σ w p hon => ?_⟩
    have p' : Pre P h h' R W H σ w := ⟨fun b hb h => p.agree b hb (h.imp (fun x => ⟨hb, x⟩) fun x => ⟨hb, x⟩), p.fresh, p.inv⟩
    refine (hf.2 H σ w p' hon).mono ?_
    rintro e w' ⟨x, σ', H', h1, h2, h3⟩
    refine ⟨x, σ', H', h1, h2, ⟨h3.goes.more fun b hb => ⟨hb.1, hb.1, hb.2⟩, fun b hb => h3.get b (hb.imp (fun h => h) fun h => ⟨h.1, h.2.2⟩)⟩⟩
  exact h1.mono (fun b hb => hr b hb.1 hb.2) (fun b hb => hw b hb.1 hb.2)
theorem FnD.below {f : FuncId} {args : List V} {h : Heap} {R W R' W' : Set'} {Q : V → Heap → Prop} (hf : FnD P f args h R W Q) (hr : ∀ b, b < h.n → R b → R' b) (hw : ∀ b, b < h.n → W b → W' b) : FnD P f args h R' W' Q := by
  have h1 : FnD P f args h (fun b => b < h.n ∧ R b) (fun b => b < h.n ∧ W b) Q := by
    refine fun H σ w p hon => ?_
    have p' : PreU P h R W H σ w := ⟨fun b hb h => p.agree b hb (h.imp (fun x => ⟨hb, x⟩) fun x => ⟨hb, x⟩), p.fresh, p.inv⟩
    refine (hf H σ w p' hon).mono ?_
    rintro e w' ⟨x, σ', H', v, h', q, vf, h1, h2, h3⟩
    refine ⟨x, σ', H', v, h', q, ⟨vf.n, fun b hb hnw => vf.get b hb fun h => hnw ⟨hb, h⟩⟩, h1, h2, ⟨h3.goes.more fun b hb => ⟨hb.1, hb.1, hb.2⟩, fun b hb => h3.get b (hb.imp (fun h => h) fun h => ⟨h.1, h.2.2⟩)⟩⟩
  exact h1.foot (fun b hb => hr b hb.1 hb.2) (fun b hb => hw b hb.1 hb.2)
theorem SF.below {f : FuncId} {args : List V} {h : Heap} {R W R' W' : Set'} {Q : V → Heap → Prop} (hf : SF M f args h R W Q) (hr : ∀ b, b < h.n → R b → R' b) (hw : ∀ b, b < h.n → W b → W' b) : SF M f args h R' W' Q := by
  unfold SF at *
  split at hf
  · obtain ⟨v, h', q, k⟩ := hf; exact ⟨v, h', q, k.below hr hw⟩
  · exact FnD.below hf hr hw

def allB (S : Set') : List Nat → Prop
  | [] => True
  | b :: r => S b ∧ allB S r
theorem allB_iff {S : Set'} : ∀ {l : List Nat}, allB S l ↔ ∀ b ∈ l, S b
  | [] => by simp [allB]
  | b :: r => by simp [allB, allB_iff]

def SNext (R W : Set') (h : Heap) (b : Nat) (K : V → Heap → Prop) : Prop := match h.get b with
  | some (.iter none _ _ _) => R b ∧ K (.tuple [.bool false]) h
  | some (.iter (some m) since seen stepped) => match h.get m with
    | some (.map es clock) => R b ∧ W b ∧ R m ∧ (seen = [] ∨ es = [] ∨ ∃ e ∈ es, e.2.2 < stepped) ∧
      ((∀ e ∈ es, e.2.2 < since → e.2.2 ∈ seen) → K (.tuple [.bool false]) h) ∧
      ∀ e ∈ es, e.2.2 ∉ seen → K (.tuple [.bool true, e.1, e.2.1]) (h.set b (.iter (some m) since (seen ++ [e.2.2]) clock))
    | _ => False
  | _ => False

def SOp (M : MP) (R W : Set') (tm : Tm) (h : Heap) (o : Oper) (K : V → Heap → Prop) : Prop := match o.op with
  | .call { callee := .value f, args, .. } => match evV tm f with
    | some (.func g xs ys) => match evVs tm args.toList with
      | some vs => callable M.P g = true ∧ SF M g ((xs ++ vs) ++ ys) h R W K
      | none => False
    | some (.yield l) => match evVs tm args.toList with
      | some vs => SY M l vs h R W K
      | none => False
    | _ => False
  | .call { callee := .invoke r name, args, .. } => match evV tm r with
    | some (.iface t v) => match methV M.P t name with
      | some g => match evVs tm args.toList with
        | some vs => callable M.P g = true ∧ SF M g (v :: vs) h R W K
        | none => False
      | none => False
    | _ => False
  | .next x isS => match M.dem with
    | false => match evP M.P tm h o with
      | some pr => allB R pr.r ∧ allB W pr.w ∧ K pr.v pr.h
      | none => False
    | true => match isS, evV tm x with
      | false, some (.ptr (some (b, 0))) => SNext R W h b K
      | _, _ => False
  | _ => match evP M.P tm h o with
    | some pr => allB R pr.r ∧ allB W pr.w ∧ K pr.v pr.h
    | none => False
theorem SOp.mono {R W : Set'} {tm : Tm} {h : Heap} {o : Oper} {K K' : V → Heap → Prop} (hs : SOp M R W tm h o K) (hk : ∀ v h', K v h' → K' v h') : SOp M R W tm h o K' := by
  unfold SOp at *
  split at hs
  · split at hs
    · split at hs
      · exact ⟨hs.1, hs.2.mono hk⟩
      · exact hs.elim
    · split at hs
      · exact hs.mono hk
      · exact hs.elim
    · exact hs.elim
  · split at hs
    · split at hs
      · split at hs
        · exact ⟨hs.1, hs.2.mono hk⟩
        · exact hs.elim
      · exact hs.elim
    · exact hs.elim
  · split at hs
    · split at hs
      · exact ⟨hs.1, hs.2.1, hk _ _ hs.2.2⟩
      · exact hs.elim
    · split at hs
      · unfold SNext at *
        split at hs
        · exact ⟨hs.1, hk _ _ hs.2⟩
        · split at hs
          · obtain ⟨h1, h2, h3, h4, h5, h6⟩ := hs
            exact ⟨h1, h2, h3, h4, fun h => hk _ _ (h5 h), fun e he hn => hk _ _ (h6 e he hn)⟩
          · exact hs.elim
        · exact hs.elim
      · exact hs.elim
  · split at hs
    · exact ⟨hs.1, hs.2.1, hk _ _ hs.2.2⟩
    · exact hs.elim

theorem opOk_call {g : FuncId} {xs ys vs : List V} {R W : Set'} {tm : Tm} {h h' : Heap} {v : V} {o : Oper} {f : Operand} {args : Array Operand} {ts : Array TypeId} (ho : o.op = .call { callee := .value f, args, argTypes := ts })
    (hf : evV tm f = some (.func g xs ys)) (hvs : evVs tm args.toList = some vs) (hc : callable P g = true) {H : HF} {σ : Ren} {w : World} {a : Act} {Kr : Act → World → Prop} {Q : Exit → Act → World → Prop} {rd : Option Nat} (he : EvOn σ tm o a.eval)
    (hcall : V.onL σ ((xs ++ vs) ++ ys) → CallsIn (FW none) 0 P g (V.reL σ ((xs ++ vs) ++ ys)).toArray w fun e w' => ∃ x, e = .returned x ∧ Kr (a.put o.dst x) w') : o.wpIn (FW rd) 0 P a w Kr Q := by
  have hnd : ∀ c, o.op ≠ .defer c := by intro c e; rw [ho] at e; cases e
  have e1 := he f (by simp [ho, Op.operands, Call.operands]) _ hf
  have e2 := evVs_rel (ρ := a.eval) args.toList vs (fun x hx => he x (by simp only [ho, Op.operands, Call.operands, Array.mem_append]; exact .inr (Array.mem_toList_iff.1 hx))) hvs
  have ea : args.map a.eval = (V.reL σ vs).toArray := by rw [← e2.2, ← Array.toList_map, Array.toArray_toList]
  refine ⟨fun _ _ => trivial, ?_⟩
  rw [Oper.semAt_eq _ _ _ hnd]
  have hrun : (execOp a.eval o).run P w = .ok (.enter g (V.reL σ ((xs ++ vs) ++ ys)).toArray) w := by
    simp only [execOp, ho, resolve, e1.2, V.re, Deferred.ofValue, Sem.run_bind, Sem.run_pure, Result.andThen_ok, invoke, ea]
    rw [run_callable hc]
    simp [reL_append]
  rw [hrun]
  refine ⟨fun h => (by cases h), ?_⟩
  refine CallsIn.mono (hcall (onL_append (onL_append e1.1.1 e2.1) e1.1.2)) ?_
  rintro e w' ⟨x, rfl, hk⟩
  exact hk
theorem opOk_invoke {g : FuncId} {r : Operand} {name : String} {t : TypeId} {u : V} {vs : List V} {tm : Tm} {o : Oper} {args : Array Operand} {ts : Array TypeId} (ho : o.op = .call { callee := .invoke r name, args, argTypes := ts })
    (hr : evV tm r = some (.iface t u)) (hg : methV P t name = some g) (hvs : evVs tm args.toList = some vs) (hc : callable P g = true) {σ : Ren} {w : World} {a : Act} {Kr : Act → World → Prop} {Q : Exit → Act → World → Prop} {rd : Option Nat} (he : EvOn σ tm o a.eval)
    (hcall : V.onL σ (u :: vs) → CallsIn (FW none) 0 P g (V.reL σ (u :: vs)).toArray w fun e w' => ∃ x, e = .returned x ∧ Kr (a.put o.dst x) w') : o.wpIn (FW rd) 0 P a w Kr Q := by
  have hnd : ∀ c, o.op ≠ .defer c := by intro c e; rw [ho] at e; cases e
  have e1 := he r (by simp [ho, Op.operands, Call.operands]) _ hr
  have e2 := evVs_rel (ρ := a.eval) args.toList vs (fun x hx => he x (by simp only [ho, Op.operands, Call.operands, Array.mem_append]; exact .inr (Array.mem_toList_iff.1 hx))) hvs
  have ea : args.map a.eval = (V.reL σ vs).toArray := by rw [← e2.2, ← Array.toList_map, Array.toArray_toList]
  refine ⟨fun _ _ => trivial, ?_⟩
  rw [Oper.semAt_eq _ _ _ hnd]
  have hrun : (execOp a.eval o).run P w = .ok (.enter g (V.reL σ (u :: vs)).toArray) w := by
    simp only [execOp, ho, resolve, e1.2, V.re, Sem.run_bind, Sem.run_pure, Result.andThen_ok, invoke, ea]
    have hm := run_methV hg (u.re σ) w (P.types.size + Made.depth - 1)
    have h0 : 0 < Made.depth := by decide
    have hd : P.types.size + Made.depth - 1 + 1 = P.types.size + Made.depth := by omega
    rw [hd] at hm
    have ex : (#[(V.iface t u).re σ] ++ (V.reL σ vs).toArray).extract 1 (#[(V.iface t u).re σ] ++ (V.reL σ vs).toArray).size = (V.reL σ vs).toArray := by simp
    have e0 : (#[(V.iface t u).re σ] ++ (V.reL σ vs).toArray)[0]? = some (.iface t (u.re σ)) := by simp [V.re]
    have hp : (program).run P w = .ok P w := rfl
    simp only [V.re] at ex e0
    simp only [e0, ex, callMethod, Sem.run_bind, hp, Result.andThen_ok, hm, run_callable hc]
    simp [V.reL]
  rw [hrun]
  refine ⟨fun h => (by cases h), ?_⟩
  refine CallsIn.mono (hcall ⟨e1.1, e2.1⟩) ?_
  rintro e w' ⟨x, rfl, hk⟩
  exact hk
theorem opOk_yield {l : Nat} {vs : List V} {tm : Tm} {h h' : Heap} {v : V} {o : Oper} {f : Operand} {args : Array Operand} {ts : Array TypeId} (ho : o.op = .call { callee := .value f, args, argTypes := ts })
    (hf : evV tm f = some (.yield l)) (hvs : evVs tm args.toList = some vs) {H : HF} {σ : Ren} {w : World} {a : Act} {Kr : Act → World → Prop} {Q : Exit → Act → World → Prop} {rd : Option Nat} (he : EvOn σ tm o a.eval)
    (hcall : V.onL σ vs → σ.is l → ∃ fn tmps assign body, (Instr.yield (σ.b l) (V.reL σ vs).toArray).run P w = .ok (.round (σ.b l) fn tmps assign body) w ∧
      RoundIn (FW none) 0 P (σ.b l) fn tmps assign body w fun e w' => ∃ x, e = .returned x ∧ Kr (a.put o.dst x) w') : o.wpIn (FW rd) 0 P a w Kr Q := by
  have hnd : ∀ c, o.op ≠ .defer c := by intro c e; rw [ho] at e; cases e
  have e1 := he f (by simp [ho, Op.operands, Call.operands]) _ hf
  have e2 := evVs_rel (ρ := a.eval) args.toList vs (fun x hx => he x (by simp only [ho, Op.operands, Call.operands, Array.mem_append]; exact .inr (Array.mem_toList_iff.1 hx))) hvs
  have ea : args.map a.eval = (V.reL σ vs).toArray := by rw [← e2.2, ← Array.toList_map, Array.toArray_toList]
  obtain ⟨fn, tmps, assign, body, h2, h3⟩ := hcall e2.1 e1.1
  refine ⟨fun _ _ => trivial, ?_⟩
  rw [Oper.semAt_eq _ _ _ hnd]
  have hrun : (execOp a.eval o).run P w = .ok (.round (σ.b l) fn tmps assign body) w := by
    simp only [execOp, ho, resolve, e1.2, V.re, Deferred.ofValue, Sem.run_bind, Sem.run_pure, Result.andThen_ok, invoke, ea]
    simpa using h2
  rw [hrun]
  refine ⟨fun h => (by cases h), ?_⟩
  refine RoundIn.mono h3 ?_
  rintro e w' ⟨x, rfl, hk⟩
  exact hk

theorem SOp.ok {R W : Set'} {tm : Tm} {h : Heap} {o : Oper} {K : V → Heap → Prop} (hs : SOp (P : MP) R W tm h o K) : ∃ v h', K v h' ∧ ∀ rd, OpOk P rd o tm h v h' R W := by
  unfold SOp at hs
  split at hs
  · rename_i f args ts ho
    split at hs
    · rename_i g xs ys hf
      split at hs
      · rename_i vs hvs
        obtain ⟨hc, v, h', q, k⟩ := hs
        refine ⟨v, h', q, fun rd => ⟨k.1, fun H σ w a Kr Q p he hK => opOk_call (h := h) (h' := h') (v := v) (R := R) (W := W) (H := H) ho hf hvs hc he fun hon => ?_⟩⟩
        refine CallsIn.mono (k.2 H σ w p hon) ?_
        rintro e w' ⟨x, σ', H', rfl, h2, h3⟩
        exact ⟨x, rfl, hK x σ' H' w' h2 h3⟩
      · exact hs.elim
    · rename_i l hf
      split at hs
      · rename_i vs hvs
        obtain ⟨v, h', q, k⟩ := hs
        refine ⟨v, h', q, fun rd => ⟨k.1, fun H σ w a Kr Q p he hK => opOk_yield (h := h) (h' := h') (v := v) (H := H) ho hf hvs he fun hon hl => ?_⟩⟩
        obtain ⟨fn, tmps, assign, body, h2, h3⟩ := k.2 H σ w p hon hl
        refine ⟨fn, tmps, assign, body, h2, RoundIn.mono h3 ?_⟩
        rintro e w' ⟨x, σ', H', rfl, h2, h3⟩
        exact ⟨x, rfl, hK x σ' H' w' h2 h3⟩
      · exact hs.elim
    · exact hs.elim
  · rename_i r name args ts ho
    split at hs
    · rename_i t u hr
      split at hs
      · rename_i g hg
        split at hs
        · rename_i vs hvs
          obtain ⟨hc, v, h', q, k⟩ := hs
          refine ⟨v, h', q, fun rd => ⟨k.1, fun H σ w a Kr Q p he hK => opOk_invoke ho hr hg hvs hc he fun hon => ?_⟩⟩
          refine CallsIn.mono (k.2 H σ w p hon) ?_
          rintro e w' ⟨x, σ', H', rfl, h2, h3⟩
          exact ⟨x, rfl, hK x σ' H' w' h2 h3⟩
        · exact hs.elim
      · exact hs.elim
    · exact hs.elim
  · split at hs
    · split at hs
      · rename_i pr hp
        exact ⟨pr.v, pr.h, hs.2.2, fun rd => opOk_prim hp (allB_iff.1 hs.1) (allB_iff.1 hs.2.1)⟩
      · exact hs.elim
    · rename_i hd; cases hd
  · split at hs
    · rename_i pr hp
      exact ⟨pr.v, pr.h, hs.2.2, fun rd => opOk_prim hp (allB_iff.1 hs.1) (allB_iff.1 hs.2.1)⟩
    · exact hs.elim

theorem SOp.okD {R W : Set'} {tm : Tm} {h : Heap} {o : Oper} {K : V → Heap → Prop} (hs : SOp ⟨P, true⟩ R W tm h o K) (rd : Option Nat) : OpD P rd o tm h R W K := by
  unfold SOp at hs
  split at hs
  · rename_i f args ts ho
    split at hs
    · rename_i g xs ys hf
      split at hs
      · rename_i vs hvs
        obtain ⟨hc, k⟩ := hs
        intro H σ w a Kr Q p he hK
        refine opOk_call (h := h) (h' := h) (v := undefV) (R := R) (W := W) (H := H) ho hf hvs hc he fun hon => ?_
        refine CallsIn.mono (k H σ w p hon) ?_
        rintro e w' ⟨x, σ', H', v, h', q, vf, rfl, h2, h3⟩
        exact ⟨x, rfl, hK x v h' σ' H' w' q vf h2 h3⟩
      · exact hs.elim
    · rename_i l hf
      split at hs
      · rename_i vs hvs
        intro H σ w a Kr Q p he hK
        refine opOk_yield (h := h) (h' := h) (v := undefV) (H := H) ho hf hvs he fun hon hl => ?_
        obtain ⟨fn, tmps, assign, body, h2, h3⟩ := hs H σ w p hon hl
        refine ⟨fn, tmps, assign, body, h2, RoundIn.mono h3 ?_⟩
        rintro e w' ⟨x, σ', H', v, h', q, vf, rfl, h2, h3⟩
        exact ⟨x, rfl, hK x v h' σ' H' w' q vf h2 h3⟩
      · exact hs.elim
    · exact hs.elim
  · rename_i r name args ts ho
    split at hs
    · rename_i t u hr
      split at hs
      · rename_i g hg
        split at hs
        · rename_i vs hvs
          obtain ⟨hc, k⟩ := hs
          intro H σ w a Kr Q p he hK
          refine opOk_invoke ho hr hg hvs hc he fun hon => ?_
          refine CallsIn.mono (k H σ w p hon) ?_
          rintro e w' ⟨x, σ', H', v, h', q, vf, rfl, h2, h3⟩
          exact ⟨x, rfl, hK x v h' σ' H' w' q vf h2 h3⟩
        · exact hs.elim
      · exact hs.elim
    · exact hs.elim
  · rename_i x isS ho
    split at hs
    · rename_i hd; cases hd
    split at hs
    · rename_i b hx
      intro H σ w a Kr Q p he hK
      have hnd : ∀ c, o.op ≠ .defer c := by intro c e; rw [ho] at e; cases e
      have e1 := he x (by simp [ho, Op.operands]) _ hx
      refine ⟨fun _ _ => trivial, ?_⟩
      rw [Oper.semAt_eq _ _ _ hnd]
      unfold SNext at hs
      split at hs
      · rename_i since seen stepped hg
        obtain ⟨hR, hk⟩ := hs
        have hHb : H b = some (.iter none since seen stepped) := by rw [p.agree b (Heap.get_lt hg) (.inl hR), hg]
        obtain ⟨l, hl, hls, _, hw⟩ := iter_rel p.inv hHb
        have hrun : (execOp a.eval o).run P w = .ok (.value (.tuple #[.bool false])) w := by
          simp only [execOp, ho, e1.2, V.re, Option.map_some, reA, Ren.b_eq hl, Ren.s_eq hl]
          rw [hls]
          simp [Instr.next, getObj, Sem.run, hw]
        rw [hrun]
        exact hK _ _ _ σ H w hk (VF.refl _ _) ⟨⟨trivial, trivial⟩, by simp [V.re, V.reL]⟩ (Step.refl p.inv fun b hb hw => p.agree b hb (.inr hw))
      · rename_i m since seen stepped hg
        split at hs
        · rename_i es clock hgm
          obtain ⟨hR, hW, hRm, hok, hend, hmore⟩ := hs
          have hHb : H b = some (.iter (some m) since seen stepped) := by rw [p.agree b (Heap.get_lt hg) (.inl hR), hg]
          have hHm : H m = some (.map es clock) := by rw [p.agree m (Heap.get_lt hgm) (.inl hRm), hgm]
          obtain ⟨l, hl, hls, hon, hw⟩ := iter_rel p.inv hHb
          obtain ⟨lm, hlm, hwm, honm⟩ := map_rel p.inv hHm
          have hlt : l.blk < w.heap.size := (Array.getElem?_eq_some_iff.1 hw).1
          have hw' : w.heap[l.blk]? = some (.mapIter (some lm.blk) since seen.toArray stepped) := by rw [hw]; simp [Ren.b_eq hlm]
          obtain ⟨n, d, c, hc, hrun⟩ := run_next (P := P) (t := o.type) hw' hwm hok
          have hrun' : (execOp a.eval o).run P w = ((Instr.next (.pointer (some ⟨l.blk, 0, none⟩)) false o.type).run P w).andThen fun v w' => .ok (.value v) w' := by
            simp only [execOp, ho, e1.2, V.re, Option.map_some, reA, Ren.b_eq hl, Ren.s_eq hl, hls, Nat.add_zero, Sem.run_bind, Sem.run_pure]
          rw [hrun', hrun]
          cases c with
          | none =>
            have hcall : ∀ e ∈ es, e.2.2 < since → e.2.2 ∈ seen := by
              intro e he hlt'
              refine Decidable.byContradiction fun hns => ?_
              have hmem : e ∈ oldE since (leftE seen es) := by
                simp only [oldE, leftE, List.mem_filter, decide_eq_true_eq]
                exact ⟨⟨he, by simpa using hns⟩, hlt'⟩
              have hne : (oldE since (leftE seen es)).isEmpty = false := by
                cases hq : oldE since (leftE seen es) with
                | nil => rw [hq] at hmem; cases hmem
                | cons a l => rfl
              have := List.mem_of_getElem? hc
              simp [candE, hne] at this
            exact hK _ _ _ σ H _ (hend hcall) (VF.refl _ _) ⟨⟨trivial, trivial⟩, by simp [V.re, V.reL]⟩ ((Step.refl p.inv fun b hb hw => p.agree b hb (.inr hw)).world rfl rfl rfl rfl)
          | some e =>
            have hmem : e ∈ es ∧ e.2.2 ∉ seen := by
              have := List.mem_of_getElem? hc
              simp only [candE, List.mem_append, List.mem_map, Option.some.injEq, exists_eq_right] at this
              rcases this with h | h | h
              · split at h <;> simp at h
              · simp only [oldE, leftE, List.mem_filter] at h; exact ⟨h.1.1, by simpa using h.1.2⟩
              · simp only [newE, leftE, List.mem_filter] at h; exact ⟨h.1.1, by simpa using h.1.2⟩
            have hen := honm e hmem.1
            have hi1 : Inv P H σ ({ w with drawn := d } : World) := p.inv.heap rfl
            have hlt1 : l.blk < ({ w with drawn := d } : World).heap.size := hlt
            have p1 : PreU P h R W H σ ({ w with drawn := d } : World) := ⟨p.agree, p.fresh, hi1⟩
            have hs := step_set (w' := ({ w with drawn := d } : World).putObj l.blk (.mapIter (some lm.blk) since (seen ++ [e.2.2]).toArray clock)) (p1.to (h' := h.set b (.iter (some m) since (seen ++ [e.2.2]) clock))) hg rfl hW hl (putObj_size _ _ _) (fun k hk => World.putObj_heap_other hk) rfl rfl rfl (by
              rw [World.putObj_heap_same hlt1]; exact ⟨hls, hon, by simp [Ren.b_eq hlm]⟩)
            refine hK _ _ _ σ (HF.upd H b (.iter (some m) since (seen ++ [e.2.2]) clock)) _ (hmore e hmem.1 hmem.2) (vf_set (Heap.get_lt hg) _ hW) ⟨⟨trivial, hen.1, hen.2, trivial⟩, by simp [V.re, V.reL]⟩ ?_
            exact ⟨⟨hs.goes.le, hs.goes.dom, hs.goes.inv, hs.goes.virt, hs.goes.dead, hs.goes.fresh, hs.goes.real, hs.goes.size, hs.goes.os, hs.goes.tape, hs.goes.output⟩, hs.get⟩
        · exact hs.elim
      · exact hs.elim
    · exact hs.elim
  · split at hs
    · rename_i pr hp
      exact OpD.of (opOk_prim hp (allB_iff.1 hs.1) (allB_iff.1 hs.2.1)) hs.2.2
    · exact hs.elim

def SOps (M : MP) (R W : Set') (ops : List Oper) : List Oper → Tm → Heap → (Tm → Heap → Prop) → Prop
  | [], tm, h, K => K tm h
  | o :: l, tm, h, K => match wantV ops tm o with
    | some true => SOp M R W tm h o fun v h' => SOps M R W ops l (tm.put o.dst v) h' K
    | some false => SOps M R W ops l (tm.put o.dst undefV) h K
    | none => False
theorem SOps.ok {R W : Set'} (opsA : Array Oper) {K : Tm → Heap → Prop} : ∀ (l : List Oper) (k : Nat) (tm : Tm) (h : Heap), opsA.toList.drop k = l → SOps (P : MP) R W opsA.toList l tm h K →
    ∃ tm' h', K tm' h' ∧ VF h h' W ∧ ∀ rd H σ w a Q, Pre P h h' R W H σ w → TRel σ tm a.tmps →
      (∀ σ' H' a' w', a'.defers = a.defers → TRel σ' tm' a'.tmps → Step P h h' W H H' σ σ' w w' → Q .normal a' w') → wpOpsIn (FW rd) 0 P opsA Q (List.range' k l.length) a w
  | [], k, tm, h, hk, hs => ⟨tm, h, hs, VF.refl _ _, fun rd H σ w a Q p ht hQ => hQ σ H a w rfl ht (Step.refl p.inv fun b hb hw => p.agree b hb (.inr hw))⟩
  | o :: r, k, tm, h, hk, hs => by
    have hlt : k < opsA.toList.length := by
      rcases Nat.lt_or_ge k opsA.toList.length with h | h
      · exact h
      · rw [List.drop_eq_nil_of_le h] at hk; cases hk
    have hdrop := List.drop_eq_getElem_cons hlt
    rw [hk] at hdrop
    have ho : opsA[k]? = some o := by
      have : o = opsA.toList[k] := (List.cons.inj hdrop).1
      rw [this]; simp at hlt; simp [hlt]
    have hk' : opsA.toList.drop (k + 1) = r := (List.cons.inj hdrop).2.symm
    unfold SOps at hs
    split at hs
    · rename_i hw
      obtain ⟨v, h1, hs1, ok1⟩ := hs.ok
      obtain ⟨tm', h', q, v2, ih⟩ := SOps.ok opsA r (k + 1) _ _ hk' hs1
      have vf1 := (ok1 none).1
      refine ⟨tm', h', q, vf1.trans v2, fun rd H σ w a Q p ht hQ => ?_⟩
      simp only [List.length_cons, List.range'_succ, wpOpsIn, ho]
      have hwant : Region.wanted o (yielded opsA a.tmps) = true := wantV_ok hw (fun j want g t u _ _ _ hu => ht.2 t u hu)
      rw [if_pos hwant]
      refine (ok1 rd).2 H σ w a _ Q (p.fst v2.n) (by cases a; exact ht.ev _ o) fun x σ' H' w' hx hs => ?_
      refine ih rd H' σ' w' _ Q (p.snd vf1 hs) ((ht.le hs.goes.le).put o.dst hx a.defers) fun σ'' H'' a' w'' hd ht' hs' => ?_
      exact hQ σ'' H'' a' w'' (hd.trans (by cases o.dst <;> rfl)) ht' (Step.trans p vf1 v2 hs hs')
    · rename_i hw
      obtain ⟨tm', h', q, v2, ih⟩ := SOps.ok opsA r (k + 1) _ _ hk' hs
      refine ⟨tm', h', q, v2, fun rd H σ w a Q p ht hQ => ?_⟩
      simp only [List.length_cons, List.range'_succ, wpOpsIn, ho]
      have hwant : Region.wanted o (yielded opsA a.tmps) = false := wantV_ok hw (fun j want g t u _ _ _ hu => ht.2 t u hu)
      rw [if_neg (by rw [hwant]; simp)]
      refine ⟨fun _ _ => trivial, ?_⟩
      refine ih rd H σ w _ Q p (ht.put o.dst ⟨undefV_on _, (undefV_re σ).symm⟩ a.defers) fun σ'' H'' a' w'' hd ht' hs' => ?_
      exact hQ σ'' H'' a' w'' (hd.trans (by cases o.dst <;> rfl)) ht' hs'
    · exact hs.elim

theorem SOps.okD {R W : Set'} (opsA : Array Oper) {K : Tm → Heap → Prop} (rd : Option Nat) (Q : Exit → Act → World → Prop) : ∀ (l : List Oper) (k : Nat) (tm : Tm) (h : Heap), opsA.toList.drop k = l → SOps ⟨P, true⟩ R W opsA.toList l tm h K →
    ∀ H σ w a, PreU P h R W H σ w → TRel σ tm a.tmps →
      (∀ σ' H' a' w' tm' h', K tm' h' → VF h h' W → a'.defers = a.defers → TRel σ' tm' a'.tmps → Step P h h' W H H' σ σ' w w' → Q .normal a' w') → wpOpsIn (FW rd) 0 P opsA Q (List.range' k l.length) a w
  | [], k, tm, h, hk, hs, H, σ, w, a, p, ht, hQ => hQ σ H a w tm h hs (VF.refl _ _) rfl ht (Step.refl p.inv fun b hb hw => p.agree b hb (.inr hw))
  | o :: r, k, tm, h, hk, hs, H, σ, w, a, p, ht, hQ => by
    have hlt : k < opsA.toList.length := by
      rcases Nat.lt_or_ge k opsA.toList.length with h | h
      · exact h
      · rw [List.drop_eq_nil_of_le h] at hk; cases hk
    have hdrop := List.drop_eq_getElem_cons hlt
    rw [hk] at hdrop
    have ho : opsA[k]? = some o := by
      have : o = opsA.toList[k] := (List.cons.inj hdrop).1
      rw [this]; simp at hlt; simp [hlt]
    have hk' : opsA.toList.drop (k + 1) = r := (List.cons.inj hdrop).2.symm
    unfold SOps at hs
    simp only [List.length_cons, List.range'_succ, wpOpsIn, ho]
    split at hs
    · rename_i hw
      have hwant : Region.wanted o (yielded opsA a.tmps) = true := wantV_ok hw (fun j want g t u _ _ _ hu => ht.2 t u hu)
      rw [if_pos hwant]
      refine (hs.okD rd) H σ w a _ Q p (by cases a; exact ht.ev _ o) fun x v h1 σ' H' w' hs1 vf1 hx hst => ?_
      refine SOps.okD opsA rd Q r (k + 1) _ _ hk' hs1 H' σ' w' _ (p.snd vf1 hst) ((ht.le hst.goes.le).put o.dst hx a.defers) fun σ'' H'' a' w'' tm' h' q v2 hd ht' hs' => ?_
      exact hQ σ'' H'' a' w'' tm' h' q (vf1.trans v2) (hd.trans (by cases o.dst <;> rfl)) ht' (Step.trans p.to vf1 v2 hst hs')
    · rename_i hw
      have hwant : Region.wanted o (yielded opsA a.tmps) = false := wantV_ok hw (fun j want g t u _ _ _ hu => ht.2 t u hu)
      rw [if_neg (by rw [hwant]; simp)]
      refine ⟨fun _ _ => trivial, ?_⟩
      refine SOps.okD opsA rd Q r (k + 1) _ _ hk' hs H σ w _ p (ht.put o.dst ⟨undefV_on _, (undefV_re σ).symm⟩ a.defers) fun σ'' H'' a' w'' tm' h' q v2 hd ht' hs' => ?_
      exact hQ σ'' H'' a' w'' tm' h' q v2 (hd.trans (by cases o.dst <;> rfl)) ht' hs'
    · exact hs.elim

structure RowP where
  R : Set'
  W : Set'
  n : Nat
  n' : Nat
def SOpD (P : Program) (tm : Tm) (h : Heap) (o : Oper) (K : V → Heap → Set' → Set' → Prop) : Prop := match o.op with
  | .call { callee := .value f, args, .. } => match evV tm f with
    | some (.func g xs ys) => match evVs tm args.toList with
      | some vs => callable P g = true ∧ ∃ R W, SF (P : MP) g ((xs ++ vs) ++ ys) h R W fun v h' => K v h' R W
      | none => False
    | _ => False
  | .call { callee := .invoke r name, args, .. } => match evV tm r with
    | some (.iface t v) => match methV P t name with
      | some g => match evVs tm args.toList with
        | some vs => callable P g = true ∧ ∃ R W, SF (P : MP) g (v :: vs) h R W fun v h' => K v h' R W
        | none => False
      | none => False
    | _ => False
  | _ => match evP P tm h o with
    | some pr => K pr.v pr.h (· ∈ pr.r) (· ∈ pr.w)
    | none => False
theorem SOpD.ok {tm : Tm} {h : Heap} {o : Oper} {K : V → Heap → Set' → Set' → Prop} (hs : SOpD P tm h o K) : ∃ v h' R W, K v h' R W ∧ ∀ rd, OpOk P rd o tm h v h' R W := by
  have key : ∃ R W, SOp (P : MP) R W tm h o fun v h' => K v h' R W := by
    unfold SOpD at hs
    split at hs
    · rename_i f args ts ho
      split at hs
      · rename_i g xs ys hf
        split at hs
        · rename_i vs hvs
          obtain ⟨hc, R, W, hk⟩ := hs
          exact ⟨R, W, by simp only [SOp, ho, hf, hvs]; exact ⟨hc, hk⟩⟩
        · exact hs.elim
      · exact hs.elim
    · rename_i r name args ts ho
      split at hs
      · rename_i t u hr
        split at hs
        · rename_i g hg
          split at hs
          · rename_i vs hvs
            obtain ⟨hc, R, W, hk⟩ := hs
            exact ⟨R, W, by simp only [SOp, ho, hr, hg, hvs]; exact ⟨hc, hk⟩⟩
          · exact hs.elim
        · exact hs.elim
      · exact hs.elim
    · rename_i hne hni
      split at hs
      · rename_i pr hp
        refine ⟨(· ∈ pr.r), (· ∈ pr.w), ?_⟩
        unfold SOp
        split
        · rename_i f args ts ho; exact absurd ho (hne f args ts)
        · rename_i r name args ts ho; exact absurd ho (hni r name args ts)
        · simp only [hp]; exact ⟨allB_iff.2 fun _ h => h, allB_iff.2 fun _ h => h, hs⟩
        · simp only [hp]; exact ⟨allB_iff.2 fun _ h => h, allB_iff.2 fun _ h => h, hs⟩
      · exact hs.elim
  obtain ⟨R, W, hk⟩ := key
  obtain ⟨v, h', q, ok⟩ := hk.ok
  exact ⟨v, h', R, W, q, ok⟩
def still (o : Oper) : Bool := match o.op with
  | .sliceToArrayPointer .. | .entry _ | .lookup .. | .move _ | .assign _ | .pick .. | .binOp .. | .unOp .. | .nilCheck _ | .makeFunc .. | .extract .. | .fieldAddr .. | .indexAddr .. | .load .. | .build .. | .slice .. | .field .. | .index .. => true
  | .convert s d _ => !Nat.beq s d
  | .call { callee := .builtin .len, .. } | .call { callee := .builtin .cap, .. } | .call { callee := .builtin .min, .. } | .call { callee := .builtin .max, .. } => true
  | _ => false
theorem still_evB {h : Heap} {b : Builtin} {ts : Array TypeId} {vs : List V} {pr : Pr} (hb : b = .len ∨ b = .cap ∨ b = .min ∨ b = .max) (hp : evB P h b ts vs = some pr) : pr.w = [] ∧ pr.h = h := by
  unfold evB at hp
  split at hp
  · split at hp
    · split at hp
      · cases hp; exact ⟨rfl, rfl⟩
      · cases hp
    · cases hp
  · split at hp
    · split at hp
      · cases hp; exact ⟨rfl, rfl⟩
      · cases hp
    · cases hp
  · cases hp; exact ⟨rfl, rfl⟩
  · cases hp; exact ⟨rfl, rfl⟩
  · simp at hb
  · simp at hb
  · simp at hb
  · cases hp
theorem still_ok {tm : Tm} {h : Heap} {o : Oper} {pr : Pr} (hs : still o = true) (hp : evP P tm h o = some pr) : pr.w = [] ∧ pr.h = h := by
  unfold evP at hp
  split at hp
  · obtain ⟨v, _, rfl⟩ := one_some hp; exact ⟨rfl, rfl⟩
  · obtain ⟨v, _, rfl⟩ := one_some hp; exact ⟨rfl, rfl⟩
  · split at hp
    · obtain ⟨v, _, rfl⟩ := one_some hp; exact ⟨rfl, rfl⟩
    · obtain ⟨v, _, rfl⟩ := one_some hp; exact ⟨rfl, rfl⟩
    · cases hp
  · split at hp
    · obtain ⟨v, _, rfl⟩ := one_some hp; exact ⟨rfl, rfl⟩
    · cases hp
  · split at hp
    · obtain ⟨v, _, rfl⟩ := one_some hp; exact ⟨rfl, rfl⟩
    · cases hp
  · split at hp
    · split at hp
      · cases hp; exact ⟨rfl, rfl⟩
      · cases hp
    · cases hp
  · split at hp
    · cases hp; exact ⟨rfl, rfl⟩
    · cases hp
  · split at hp
    · obtain ⟨v, _, rfl⟩ := one_some hp; exact ⟨rfl, rfl⟩
    · cases hp
  · split at hp
    · split at hp
      · cases hp; exact ⟨rfl, rfl⟩
      · cases hp
    · cases hp
  · split at hp
    · obtain ⟨v, _, rfl⟩ := one_some hp; exact ⟨rfl, rfl⟩
    · cases hp
  · split at hp
    · split at hp
      · cases hp; exact ⟨rfl, rfl⟩
      · cases hp
    · cases hp
  · rename_i ho; simp [still, ho] at hs
  · rename_i ho; simp [still, ho] at hs
  · rename_i ho; simp [still, ho] at hs
  · rename_i ho; simp [still, ho] at hs
  · split at hp
    · split at hp
      · cases hp; exact ⟨rfl, rfl⟩
      · cases hp
    · cases hp
  · rename_i ho; simp [still, ho] at hs
  · split at hp
    · obtain ⟨v, _, rfl⟩ := one_some hp; exact ⟨rfl, rfl⟩
    · cases hp
  · rename_i ho
    split at hp
    · rename_i hq; simp [still, ho, hq] at hs
    · split at hp
      · split at hp
        · cases hp; exact ⟨rfl, rfl⟩
        · cases hp
      · cases hp
  · split at hp
    · obtain ⟨v, _, rfl⟩ := one_some hp; exact ⟨rfl, rfl⟩
    · cases hp
  · split at hp
    · obtain ⟨v, _, rfl⟩ := one_some hp; exact ⟨rfl, rfl⟩
    · cases hp
  · rename_i ho; simp [still, ho] at hs
  · split at hp
    · split at hp
      · cases hp; exact ⟨rfl, rfl⟩
      · cases hp
    · cases hp
  · rename_i ho; simp [still, ho] at hs
  · rename_i ho; simp [still, ho] at hs
  · rename_i ho; simp [still, ho] at hs
  · split at hp
    · obtain ⟨v, _, rfl⟩ := one_some hp; exact ⟨rfl, rfl⟩
    · cases hp
  · rename_i ho; simp [still, ho] at hs
  · split at hp
    · split at hp
      · split at hp
        · cases hp; exact ⟨rfl, rfl⟩
        · cases hp
      · cases hp
    · cases hp
  · split at hp
    · obtain ⟨v, _, rfl⟩ := one_some hp; exact ⟨rfl, rfl⟩
    · cases hp
  · rename_i c ho
    obtain ⟨callee, args, ts⟩ := c
    split at hp
    · rename_i b hc
      dsimp only at hc hp
      subst hc
      split at hp
      · refine still_evB ?_ hp
        unfold still at hs
        rw [ho] at hs
        cases b <;> first | (cases hs; done) | simp
      · cases hp
    · cases hp
  · cases hp

def ApartP (ri rj : RowP) : Prop :=
  (∀ b, (b < ri.n ∧ ri.W b) ∨ (ri.n ≤ b ∧ b < ri.n') → ¬ (b < rj.n ∧ (rj.R b ∨ rj.W b))) ∧ (∀ b, b < rj.n ∧ rj.W b → ¬ (b < ri.n ∧ (ri.R b ∨ ri.W b)))
def openPairs (ops : List Oper) : List (Nat × Nat) :=
  (List.range ops.length).flatMap fun j => (List.range j).filterMap fun i =>
    match Nat.testBit ((masks ops []).getD j 0) i with
    | true => none
    | false => match ops[i]?, ops[j]? with
      | some a, some b => match still a, still b with
        | true, true => none
        | _, _ => some (i, j)
      | _, _ => none
def pairsP (rows : List RowP) : List (Nat × Nat) → Prop
  | [] => True
  | (i, j) :: r => (match rows[i]?, rows[j]? with
    | some a, some b => ApartP a b
    | _, _ => False) ∧ pairsP rows r

def footP (R W : Set') (n : Nat) : List RowP → Prop
  | [] => True
  | x :: r => (∀ b, b < n → x.R b → R b) ∧ (∀ b, b < n → x.W b → W b) ∧ footP R W n r
theorem footP_mem {R W : Set'} {n : Nat} : ∀ {rows : List RowP}, footP R W n rows → ∀ x ∈ rows, (∀ b, b < n → x.R b → R b) ∧ (∀ b, b < n → x.W b → W b)
  | [], _, x, hx => by cases hx
  | y :: r, h, x, hx => by
    rcases List.mem_cons.1 hx with rfl | hx
    · exact ⟨h.1, h.2.1⟩
    · exact footP_mem h.2.2 x hx
def isCall : Op → Bool
  | .call { callee := .value _, .. } => true
  | .call { callee := .invoke .., .. } => true
  | _ => false
def SDem (M : MP) (Rt Wt : Set') (ps : List (Nat × Nat)) (n : Nat) (rows : List RowP) (tm : Tm) (h : Heap) (o : Oper) (K : V → Heap → Set' → Set' → Prop) : Prop :=
  M.dem = true ∧ (ps.all fun p => !Nat.beq p.1 rows.length) = true ∧ ∃ R W, pairsP (rows ++ [⟨R, W, h.n, h.n⟩]) (ps.filter fun p => Nat.ble p.2 rows.length) ∧ footP Rt Wt n (rows ++ [⟨R, W, h.n, h.n⟩]) ∧ SOp M R W tm h o fun v h' => K v h' R W
def SRows (M : MP) (Rt Wt : Set') (ps : List (Nat × Nat)) (n : Nat) (ops : List Oper) : List Oper → Tm → Heap → List RowP → (Tm → Heap → List RowP → Prop) → Prop
  | [], tm, h, rows, K => K tm h rows
  | o :: l, tm, h, rows, K => match wantV ops tm o with
    | some true => match isCall o.op with
      | false => SOpD M.P tm h o fun v h' R W => SRows M Rt Wt ps n ops l (tm.put o.dst v) h' (rows ++ [⟨R, W, h.n, h'.n⟩]) K
      | true => SOpD M.P tm h o (fun v h' R W => SRows M Rt Wt ps n ops l (tm.put o.dst v) h' (rows ++ [⟨R, W, h.n, h'.n⟩]) K) ∨ SDem M Rt Wt ps n rows tm h o fun v h' R W => SRows M Rt Wt ps n ops l (tm.put o.dst v) h' (rows ++ [⟨R, W, h.n, h'.n⟩]) K
    | some false => SRows M Rt Wt ps n ops l (tm.put o.dst undefV) h (rows ++ [⟨fun _ => False, fun _ => False, h.n, h.n⟩]) K
    | none => False
def SDraw (M : MP) (R W : Set') (ops : List Oper) (tm : Tm) (h : Heap) (K : Tm → Heap → Prop) : Prop :=
  staticOk ops = true ∧ SRows M R W (openPairs ops) h.n ops ops tm h [] fun tm' h' rows => pairsP rows (openPairs ops) ∧ footP R W h.n rows ∧ K tm' h'

theorem pairsP_mem {rows : List RowP} : ∀ {l : List (Nat × Nat)}, pairsP rows l → ∀ i j, (i, j) ∈ l → ∀ a b, rows[i]? = some a → rows[j]? = some b → ApartP a b
  | [], _, i, j, h => by cases h
  | (i', j') :: r, h, i, j, hm => by
    intro a b ha hb
    rcases List.mem_cons.1 hm with e | hm
    · cases e
      have := h.1
      simp only [ha, hb] at this
      exact this
    · exact pairsP_mem h.2 i j hm a b ha hb

theorem SOpD.st {tm : Tm} {h : Heap} {o : Oper} {K : V → Heap → Set' → Set' → Prop} (hsr : SOpD P tm h o K) : ∃ v h1 R0 W0, K v h1 R0 W0 ∧ (∀ rd, OpOk P rd o tm h v h1 R0 W0) ∧ (still o = true → (∀ b, ¬ W0 b) ∧ h1.n = h.n) := by
  by_cases hso : still o = true
  · unfold SOpD at hsr
    split at hsr
    · rename_i ho; simp [still, ho] at hso
    · rename_i ho; simp [still, ho] at hso
    · split at hsr
      · rename_i pr hp
        obtain ⟨e1, e2⟩ := still_ok hso hp
        refine ⟨pr.v, pr.h, (· ∈ pr.r), (· ∈ pr.w), hsr, fun rd => opOk_prim hp (fun _ h => h) (fun _ h => h), fun _ => ⟨fun b hb => (by rw [e1] at hb; cases hb), by rw [e2]⟩⟩
      · exact hsr.elim
  · obtain ⟨v, h1, R0, W0, h2, h3⟩ := hsr.ok
    exact ⟨v, h1, R0, W0, h2, h3, fun h => absurd h hso⟩

theorem SRows_run {Rt Wt : Set'} {ps : List (Nat × Nat)} {n : Nat} {ops : List Oper} {K : Tm → Heap → List RowP → Prop} : ∀ (l : List Oper) (tm : Tm) (h : Heap) (pre : List RowP), SRows (P : MP) Rt Wt ps n ops l tm h pre K →
    ∃ tm' h' rows, K tm' h' (pre ++ rows) ∧ ∃ (hs : Nat → Heap) (tms : Nat → Tm) (vs : Nat → V) (R W : Nat → Set'), hs 0 = h ∧ tms 0 = tm ∧ hs l.length = h' ∧ tms l.length = tm' ∧ rows.length = l.length ∧
      ∀ i o, l[i]? = some o → rows[i]? = some ⟨R i, W i, (hs i).n, (hs (i + 1)).n⟩ ∧ (still o = true → (∀ b, ¬ W i b) ∧ (hs (i + 1)).n = (hs i).n) ∧ tms (i + 1) = (tms i).put o.dst (vs i) ∧ VF (hs i) (hs (i + 1)) (W i) ∧
        ((wantV ops (tms i) o = some true ∧ ∀ rd, OpOk P rd o (tms i) (hs i) (vs i) (hs (i + 1)) (R i) (W i)) ∨ (wantV ops (tms i) o = some false ∧ vs i = undefV ∧ hs (i + 1) = hs i ∧ (∀ b, ¬ W i b)))
  | [], tm, h, pre, hs => ⟨tm, h, [], by simpa [SRows] using hs, fun _ => h, fun _ => tm, fun _ => undefV, fun _ _ => False, fun _ _ => False, rfl, rfl, rfl, rfl, rfl, fun i o ho => by simp at ho⟩
  | o :: r, tm, h, pre, hsr => by
    unfold SRows at hsr
    split at hsr
    · rename_i hw
      have hsr : SOpD P tm h o (fun v h' R W => SRows (P : MP) Rt Wt ps n ops r (tm.put o.dst v) h' (pre ++ [⟨R, W, h.n, h'.n⟩]) K) := by
        split at hsr
        · exact hsr
        · exact hsr.resolve_right fun h => by cases h.1
      obtain ⟨v, h1, R0, W0, hk, ok, hstill⟩ := hsr.st
      obtain ⟨tm', h', rows, q, hs, tms, vs, R, W, e1, e2, e3, e4, e5, e6⟩ := SRows_run r _ _ _ hk
      refine ⟨tm', h', ⟨R0, W0, h.n, h1.n⟩ :: rows, by simpa using q, fun k => Nat.casesOn k h hs, fun k => Nat.casesOn k tm tms, fun k => Nat.casesOn k v vs, fun k => Nat.casesOn k R0 R, fun k => Nat.casesOn k W0 W, rfl, rfl, e3, e4, by simp [e5], fun i q hq => ?_⟩
      cases i with
      | zero =>
        simp at hq; subst hq
        refine ⟨?_, ?_, e2, ?_, .inl ⟨hw, fun rd => ?_⟩⟩
        · show some _ = some (⟨R0, W0, h.n, (hs 0).n⟩ : RowP); rw [e1]
        · show still o = true → (∀ b, ¬ W0 b) ∧ (hs 0).n = h.n; rw [e1]; exact hstill
        · show VF h (hs 0) W0; rw [e1]; exact (ok none).1
        · show OpOk P rd o tm h v (hs 0) R0 W0; rw [e1]; exact ok rd
      | succ i => exact e6 i q (by simpa using hq)
    · rename_i hw
      obtain ⟨tm', h', rows, q, hs, tms, vs, R, W, e1, e2, e3, e4, e5, e6⟩ := SRows_run r _ _ _ hsr
      refine ⟨tm', h', ⟨fun _ => False, fun _ => False, h.n, h.n⟩ :: rows, by simpa using q, fun k => Nat.casesOn k h hs, fun k => Nat.casesOn k tm tms, fun k => Nat.casesOn k undefV vs, fun k => Nat.casesOn k (fun _ => False) R, fun k => Nat.casesOn k (fun _ => False) W, rfl, rfl, e3, e4, by simp [e5], fun i q hq => ?_⟩
      cases i with
      | zero =>
        simp at hq; subst hq
        refine ⟨?_, ?_, e2, ?_, .inr ⟨hw, rfl, e1, fun b h => h⟩⟩
        · show some _ = some (⟨fun _ => False, fun _ => False, h.n, (hs 0).n⟩ : RowP); rw [e1]
        · show still o = true → (∀ b, ¬ False) ∧ (hs 0).n = h.n; rw [e1]; exact fun _ => ⟨fun _ h => h, rfl⟩
        · show VF h (hs 0) _; rw [e1]; exact VF.refl _ _
      | succ i => exact e6 i q (by simpa using hq)
    · exact hsr.elim

theorem mem_openPairs {ops : List Oper} {i j : Nat} {oi oj : Oper} (hij : i < j) (hi : ops[i]? = some oi) (hj : ops[j]? = some oj) :
    Nat.testBit ((masks ops []).getD j 0) i = true ∨ (still oi = true ∧ still oj = true) ∨ (i, j) ∈ openPairs ops := by
  by_cases hb : Nat.testBit ((masks ops []).getD j 0) i = true
  · exact .inl hb
  · right
    by_cases hs : still oi = true ∧ still oj = true
    · exact .inl hs
    · right
      have hjl := (List.getElem?_eq_some_iff.1 hj).1
      refine List.mem_flatMap.2 ⟨j, List.mem_range.2 hjl, List.mem_filterMap.2 ⟨i, List.mem_range.2 hij, ?_⟩⟩
      have hb' : Nat.testBit ((masks ops []).getD j 0) i = false := by simpa using hb
      simp only [hb', hi, hj]
      cases h1 : still oi <;> cases h2 : still oj <;> simp_all

theorem SDraw.ok (hm : P.follows .mixedOrders = true) {R W : Set'} (opsA : Array Oper) {tm : Tm} {h : Heap} {K : Tm → Heap → Prop} (hs : SDraw (P : MP) R W opsA.toList tm h K) :
    ∃ tm' h', K tm' h' ∧ VF h h' W ∧ ∀ rd rid H σ w a Q, Pre P h h' R W H σ w → TRel σ tm a.tmps →
      (∀ σ' H' a' w', a'.defers = a.defers → TRel σ' tm' a'.tmps → Step P h h' W H H' σ σ' w w' → Q .normal a' w') → (Code.region rid opsA true).wpIn (FW rd) 0 P Q a w := by
  obtain ⟨hst, hs⟩ := hs
  obtain ⟨tm', h', rows, ⟨hpairs, hfoot, q⟩, hh, tms, vs, R', W', e1, e2, e3, e4, e5, e6⟩ := SRows_run _ _ _ _ hs
  simp only [List.nil_append] at hpairs hfoot
  have hlen : opsA.toList.length = opsA.size := by simp
  rw [hlen] at e3 e4 e5
  have e6' : ∀ i o, opsA[i]? = some o → _ := fun i o ho => e6 i o (by simpa using ho)
  have run : ∀ rd, Run P opsA.toList (fun _ => False) rd opsA hh tms vs R' W' := by
    intro rd
    refine ⟨fun i o ho => ?_, fun i o ho e he hb => ?_, fun i j oi oj hij hoi hoj => ?_, fun i j hij hj => ?_⟩
    · obtain ⟨_, _, h1, h2, h3⟩ := e6' i o ho
      exact ⟨h1, h2, h3.imp (fun ⟨a, b⟩ => ⟨a, fun _ => b rd⟩) fun h => h⟩
    · exact static_edge hst (by simpa using ho) he hb
    · exact static_tmps hst hij (by simpa using hoi) (by simpa using hoj)
    · have hi' : i < opsA.size := by omega
      obtain ⟨g1, g2, _⟩ := e6' i _ (Array.getElem?_eq_getElem hi')
      obtain ⟨k1, k2, _⟩ := e6' j _ (Array.getElem?_eq_getElem hj)
      rcases mem_openPairs (ops := opsA.toList) hij (oi := opsA[i]) (oj := opsA[j]) (by simp [hi']) (by simp [hj]) with h | ⟨h1, h2⟩ | h
      · exact .inl (masks_ok h)
      · right
        refine ⟨fun b hb _ => ?_, fun b hb => absurd hb.2 ((k2 h2).1 b)⟩
        rcases hb with hb | hb
        · exact (g2 h1).1 b hb.2
        · have := hb.1; have := hb.2; have := (g2 h1).2; omega
      · exact .inr (pairsP_mem hpairs i j h _ _ g1 k1)
  have hsub : ∀ k b, k < opsA.size → b < (hh 0).n → b < (hh k).n := fun k b hk hb => Nat.lt_of_lt_of_le hb ((run none).n_mono (Nat.zero_le _) (by omega))
  have hn0 : (hh 0).n = h.n := by rw [e1]
  have hRf : ∀ k b, k < opsA.size → b < (hh 0).n → R' k b → R b := fun k b hk hb hr => by
    obtain ⟨g1, _⟩ := e6' k _ (Array.getElem?_eq_getElem hk)
    exact (footP_mem hfoot _ (List.mem_of_getElem? g1)).1 b (by omega) hr
  have hWf : ∀ k b, k < opsA.size → b < (hh 0).n → W' k b → W b := fun k b hk hb hr => by
    obtain ⟨g1, _⟩ := e6' k _ (Array.getElem?_eq_getElem hk)
    exact (footP_mem hfoot _ (List.mem_of_getElem? g1)).2 b (by omega) hr
  refine ⟨tm', h', q, ?_, fun rd rid H σ w a Q p ht hQ => ?_⟩
  · have : ∀ k, k ≤ opsA.size → VF (hh 0) (hh k) W := by
      intro k
      induction k with
      | zero => intro _; exact VF.refl _ _
      | succ k ih =>
        intro hk
        have h1 := ih (by omega)
        have h2 := (run none).vf (i := k) (by omega)
        refine ⟨Nat.le_trans h1.n h2.n, fun b hb hw => ?_⟩
        rw [h2.get b (hsub k b (by omega) hb) fun hwk => hw (hWf k b (by omega) hb hwk), h1.get b hb hw]
    have := this opsA.size (Nat.le_refl _)
    rwa [e1, e3] at this
  · have p' : Pre P (hh 0) (hh opsA.size) R W H σ w := by rw [e1, e3]; exact p
    refine wp_draw hm (run rd) hRf hWf p' (by rw [e2]; exact ht) fun σ' H' a' w' h1 h2 h3 => hQ σ' H' a' w' h1 (by rw [e4] at h2; exact h2) ?_
    rw [e1, e3] at h3; exact h3

end Go.Vm
