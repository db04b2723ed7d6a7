/- The fast machine: operations. -/
import Derived.Test.YtmkdbninmimndaaVmFast
set_option linter.unusedVariables false
set_option linter.unusedSimpArgs false
namespace Go.Vm
variable {P : Program}

abbrev FOp := Tm → Heap → Option Pr
def bareO (op : Op) : Oper := { dst := none, op := op, type := 0, pos := "", after := #[], guard := none }
theorem evP_bare (tm : Tm) (h : Heap) (o : Oper) : evP P tm h (bareO o.op) = evP P tm h o := rfl
/-- The slow one. -/
noncomputable def slowP (P : Program) (op : Op) : FOp := fun tm h => evP P tm h (bareO op)

noncomputable def fOut (v : V) (h : Heap) : Option Pr := some ⟨v, h, [], []⟩
noncomputable def fShift (op : BinOp) : Bx (IntKind → Nat → Nat → Option V) := match op with
  | .shl => ⟨fun k a b => some (.int k (fwrap k (Nat.mul a (Nat.pow 2 (bB (Nat.ble b (kBits k)) b (kBits k))))))⟩
  | .shr => ⟨fun k a b => some (.int k (Int.ofNat (Nat.div a (Nat.pow 2 (bB (Nat.ble b (kBits k)) b (kBits k))))))⟩
  | _ => ⟨fun _ _ _ => none⟩
where kBits : IntKind → Nat
  | .i8 => 8
  | .i16 => 16
  | .i32 => 32
  | .i64 => 64
  | .u8 => 8
  | .u16 => 16
  | .u32 => 32
  | .u64 => 64
theorem fShift_eq {op : BinOp} {k : IntKind} {a b : Nat} {v : V} (h : (fShift op).f k a b = some v) : intShift op k (Int.ofNat a) (Int.ofNat b) = some v := by
  have hm : bB (Nat.ble b (fShift.kBits k)) b (fShift.kBits k) = min (Int.ofNat b).toNat k.bits := by
    have hk : fShift.kBits k = k.bits := by cases k <;> rfl
    rw [hk]
    show _ = min b k.bits
    cases hb : Nat.ble b k.bits with
    | true => rw [bB_true]; have := Nat.le_of_ble_eq_true hb; omega
    | false =>
      rw [bB_false]
      have : ¬ b ≤ k.bits := fun h => by rw [Nat.ble_eq_true_of_le h] at hb; cases hb
      omega
  have h0 : ¬ (Int.ofNat b < 0) := by simp
  cases op <;> try (cases h; done)
  · simp only [fShift] at h
    cases h
    unfold intShift
    rw [if_neg h0, hm, fwrap_eq]
    simp only []
    congr 2
  · simp only [fShift] at h
    cases h
    unfold intShift
    rw [if_neg h0, hm]
    simp only []
    congr 2
    show Int.fdiv (a : Int) ((2 : Int) ^ _) = _
    rw [Int.fdiv_eq_ediv_of_nonneg _ (Int.pow_nonneg (by omega))]
    show _ = ((a / 2 ^ _ : Nat) : Int)
    simp
/-- What the fast way does not answer, the slow one does. -/
noncomputable def oE (d x : Option V) : Option V := Option.rec (motive := fun _ => Option V) d (fun v => some v) x
theorem oE_some {d x : Option V} {r : V} (h : oE d x = some r) : x = some r ∨ d = some r := by
  cases x with
  | none => exact .inr h
  | some v => exact .inl h
noncomputable def fBin (P : Program) (op : BinOp) (t : TypeId) (g : IntKind → Nat → Nat → Option V) (x y : V) : Option V :=
  oE (binW P op t x y) (oP (selInt x) fun k a => oP (selInt y) fun k' b => bB (Nat.beq (kIdx k) (kIdx k')) (iN a fun m => iN b fun n => g k m n) none)
theorem fBin_eq {op : BinOp} {t : TypeId} {x y v : V} (hop : op ≠ .shl ∧ op ≠ .shr) (h : fBin P op t (cBinI op).f x y = some v) : binW P op t x y = some v := by
  unfold fBin at h
  rcases oE_some h with hr | h
  case inr => exact h
  · obtain ⟨k, a, hp, h1⟩ := oP_some hr
    obtain ⟨k', b, hq, h2⟩ := oP_some h1
    clear h h1 hr
    rw [selInt_some hp, selInt_some hq]
    cases hk : Nat.beq (kIdx k) (kIdx k') with
    | false => rw [hk] at h2; cases h2
    | true =>
      rw [hk, bB_true] at h2
      have he := kIdx_inj hk
      obtain ⟨m, rfl, h3⟩ := iN_some h2
      obtain ⟨n, rfl, h4⟩ := iN_some h3
      have := cBinI_eq h4
      cases op <;> first | exact absurd rfl hop.1 | exact absurd rfl hop.2 | (simp only [binW, binV, ← he, if_true]; exact this)
noncomputable def fBinS (P : Program) (op : BinOp) (t : TypeId) (g : IntKind → Nat → Nat → Option V) (x y : V) : Option V :=
  oE (binW P op t x y) (oP (selInt x) fun k a => oP (selInt y) fun _ b => iN a fun m => iN b fun n => g k m n)
theorem fBinS_eq {op : BinOp} {t : TypeId} {x y v : V} (h : fBinS P op t (fShift op).f x y = some v) : binW P op t x y = some v := by
  unfold fBinS at h
  rcases oE_some h with hr | h
  case inr => exact h
  · obtain ⟨k, a, hp, h1⟩ := oP_some hr
    obtain ⟨k', b, hq, h2⟩ := oP_some h1
    clear h h1 hr
    rw [selInt_some hp, selInt_some hq]
    obtain ⟨m, rfl, h3⟩ := iN_some h2
    obtain ⟨n, rfl, h4⟩ := iN_some h3
    have := fShift_eq h4
    cases op <;> first | (cases h4; done) | exact this
noncomputable def cBin (P : Program) (op : BinOp) (t : TypeId) : Bx (V → V → Option V) := match op with
  | .shl => ⟨fBinS P .shl t (fShift .shl).f⟩
  | .shr => ⟨fBinS P .shr t (fShift .shr).f⟩
  | op => ⟨fBin P op t (cBinI op).f⟩
theorem binN_of {op : BinOp} {t : TypeId} {x y : Operand} {a b v : V} (h : binW P op t a b = some v) : binN P op t x y a b = some v := by
  unfold binN
  split
  · simp only [binW, binV] at h
    cases op <;> simp [eqSmall] at h
  · exact h
theorem cBin_eq {op : BinOp} {t : TypeId} {x y v : V} (h : (cBin P op t).f x y = some v) : binW P op t x y = some v := by
  cases op <;> first | exact fBinS_eq h | exact fBin_eq (by simp) h

/-! ### memory -/
noncomputable def fCells (h : Heap) (b : Nat) : Option Blk := oB (fget h b) selCells
theorem fCells_some {h : Heap} {b : Nat} {c : Blk} (e : fCells h b = some c) : ∃ t, h.get b = some (.cells c t) := by
  obtain ⟨o, h1, h2⟩ := oB_some e
  rw [fget_eq] at h1
  obtain ⟨e, rfl⟩ := selCells_some h2
  exact ⟨e, h1⟩
noncomputable def fCellsE (h : Heap) (b : Nat) : Option (Blk × TypeId) := oB (fget h b) selCellsE
theorem fCellsE_some {h : Heap} {b : Nat} {c : Blk} {t : TypeId} (e : fCellsE h b = some (c, t)) : h.get b = some (.cells c t) := by
  obtain ⟨o, h1, h2⟩ := oB_some e
  rw [fget_eq] at h1
  rw [h1, selCellsE_some h2]
noncomputable def cLoad (P : Program) (t : TypeId) : Bx (Nat → Nat → Heap → Option V) := match aggV P t, szV P t with
  | some true, some n => ⟨fun b off h => oB (fCells h b) fun c => bB (Nat.ble (Nat.add off n) c.size) (some (.agg (fgets c off n))) none⟩
  | some false, _ => ⟨fun b off h => oB (fCells h b) fun c => bB (Nat.ble (Nat.succ off) c.size) (some (fbget c off)) none⟩
  | _, _ => ⟨fun _ _ _ => none⟩
theorem cLoad_eq {t : TypeId} {b off : Nat} {h : Heap} {v : V} (e : (cLoad P t).f b off h = some v) : loadV P t h b off = some v := by
  unfold cLoad at e
  unfold loadV
  split at e
  · rename_i n ha hn
    obtain ⟨c, h1, h2⟩ := oB_some e
    obtain ⟨ty, hg⟩ := fCells_some h1
    simp only [hg, ha, hn]
    have h2 : bB (Nat.ble (off + n) c.size) _ _ = _ := h2
    cases hb : Nat.ble (off + n) c.size with
    | true => rw [hb, bB_true] at h2; cases h2; rw [fgets_eq]
    | false => rw [hb] at h2; cases h2
  · rename_i ha
    obtain ⟨c, h1, h2⟩ := oB_some e
    obtain ⟨ty, hg⟩ := fCells_some h1
    simp only [hg, ha]
    have h2 : bB (Nat.blt off c.size) (some (fbget c off)) none = some v := h2
    cases hb : Nat.blt off c.size with
    | true => rw [hb, bB_true] at h2; cases h2; rw [fbget_eq]
    | false => rw [hb] at h2; cases h2
  · cases e
noncomputable def cStore (P : Program) (t : TypeId) : Bx (Nat → Nat → V → Heap → Option Heap) := match szV P t with
  | some n => ⟨fun b off v h => oP (fCellsE h b) fun c e => bB (Nat.beq v.cellsV.length n) (bB (Nat.ble (Nat.add off n) c.size) (bB (allOne v.cellsV) (bB c.ro none (some (fset h b (.cells (fputA c off v.cellsV) e)))) none) none) none⟩
  | none => ⟨fun _ _ _ _ => none⟩
theorem cStore_eq {t : TypeId} {b off : Nat} {v : V} {h h' : Heap} (e : (cStore P t).f b off v h = some h') : storeV P t h b off v = some h' := by
  unfold cStore at e
  unfold storeV
  split at e
  · rename_i n hn
    obtain ⟨c, ty, h1, h2⟩ := oP_some e
    simp only [fCellsE_some h1, hn]
    cases h3 : Nat.beq v.cellsV.length n with
    | false => rw [h3] at h2; cases h2
    | true =>
      rw [h3, bB_true] at h2
      rw [Nat.eq_of_beq_eq_true h3]
      simp only []
      have h2 : bB (Nat.ble (off + n) c.size) _ _ = _ := h2
      cases h4 : Nat.ble (off + n) c.size with
      | false => rw [h4] at h2; cases h2
      | true =>
        rw [h4, bB_true] at h2
        simp only []
        cases h5 : allOne v.cellsV with
        | false => rw [h5] at h2; cases h2
        | true =>
          rw [h5, bB_true] at h2
          simp only []
          cases h6 : c.ro with
          | true => rw [h6] at h2; cases h2
          | false =>
            rw [h6, bB_false] at h2; cases h2
            rw [fset_eq, fputA_eq]
  · cases e

/-! ### operations -/
noncomputable def cIdx (P : Program) (t : TypeId) : Bx (V → V → Option V) := match idxSlice P t, idxArray P t with
  | some sz, _ => ⟨fun x y => oP (selSlice x) fun p n => Prod.rec (motive := fun _ => Option V) (fun b off => oP (selInt y) fun _ i => iN i fun q => bB (Nat.ble (Nat.succ q) n) (some (.ptr (some (b, Nat.add off (Nat.mul q sz))))) none) p⟩
  | none, some (len, sz) => ⟨fun x y => oP (selPtr x) fun b off => oP (selInt y) fun _ i => iN i fun q => bB (Nat.ble (Nat.succ q) len) (some (.ptr (some (b, Nat.add off (Nat.mul q sz))))) none⟩
  | none, none => ⟨fun _ _ => none⟩
theorem cIdx_eq {t : TypeId} {x y v : V} (h : (cIdx P t).f x y = some v) : idxAddr P t x y = some v := by
  unfold cIdx at h
  split at h
  · rename_i sz hs
    obtain ⟨p, n, hp, h2⟩ := oP_some h
    obtain ⟨b, off⟩ := p
    obtain ⟨k, i, hq, h3⟩ := oP_some h2
    obtain ⟨q, rfl, h4⟩ := iN_some h3
    obtain ⟨c, ex, e⟩ := selSlice_some hp
    rw [e, selInt_some hq]
    simp only [idxAddr, hs]
    have h4 : bB (Nat.blt q n) (some (V.ptr (some (b, off + q * sz)))) none = some v := h4
    cases hb : Nat.blt q n with
    | false => rw [hb] at h4; cases h4
    | true =>
      rw [hb, bB_true] at h4; cases h4
      have := Nat.blt_eq.mp hb
      rw [if_pos ⟨by simp, by simpa using this⟩]
      rfl
  · rename_i len sz hn hs
    obtain ⟨b, off, hp, h2⟩ := oP_some h
    obtain ⟨k, i, hq, h3⟩ := oP_some h2
    obtain ⟨q, rfl, h4⟩ := iN_some h3
    rw [selPtr_some hp, selInt_some hq]
    simp only [idxAddr, hs]
    have h4 : bB (Nat.blt q len) (some (V.ptr (some (b, off + q * sz)))) none = some v := h4
    cases hb : Nat.blt q len with
    | false => rw [hb] at h4; cases h4
    | true =>
      rw [hb, bB_true] at h4; cases h4
      have := Nat.blt_eq.mp hb
      rw [if_pos ⟨by simp, by simpa using this⟩]
      rfl
  · cases h
noncomputable def fFirst (h : Heap) (sz n : Nat) (x : V) : Option (List V × List Nat) := match x with
  | .slice (some (b, off)) _ _ _ => oB (fCells h b) fun c => bB (Nat.ble (Nat.add off (Nat.mul n sz)) c.size) (some (fgets c off (Nat.mul n sz), [b])) none
  | x => firstV h sz n x
theorem fFirst_eq {h : Heap} {sz n : Nat} {x : V} {r : List V × List Nat} (e : fFirst h sz n x = some r) : firstV h sz n x = some r := by
  unfold fFirst at e
  split at e
  · rename_i b off l c ex
    obtain ⟨c, h1, h2⟩ := oB_some e
    obtain ⟨t, hg⟩ := fCells_some h1
    simp only [firstV, hg]
    have h2 : bB (Nat.ble (off + n * sz) c.size) (some (fgets c off (n * sz), [b])) none = some r := h2
    cases hb : Nat.ble (off + n * sz) c.size with
    | true => rw [hb, bB_true, fgets_eq] at h2; exact h2
    | false => rw [hb] at h2; cases h2
  · exact e
noncomputable def fAppIn (h : Heap) (base : Option (Nat × Nat)) (sLen sCap : Nat) (ex : Bool) (size n : Nat) (news : List V) (rs : List Nat) : Option Pr := match base with
  | none => some ⟨.slice none (Nat.add sLen n) sCap true, h, rs, []⟩
  | some (b, off) => oP (fCellsE h b) fun c e => bB (Nat.ble (Nat.add (Nat.add off (Nat.mul sLen size)) news.length) c.size) (bB (allOne news) (bB c.ro none (some ⟨.slice (some (b, off)) (Nat.add sLen n) sCap ex, fset h b (.cells (fputA c (Nat.add off (Nat.mul sLen size)) news) e), rs, [b]⟩)) none) none
theorem fAppIn_eq {h : Heap} {base : Option (Nat × Nat)} {sLen sCap : Nat} {ex : Bool} {size n : Nat} {news : List V} {rs : List Nat} {pr : Pr} (e : fAppIn h base sLen sCap ex size n news rs = some pr) : appendIn h base sLen sCap ex size n news rs = some pr := by
  unfold fAppIn at e
  split at e
  · exact e
  · rename_i b off
    obtain ⟨c, ty, h1, h2⟩ := oP_some e
    simp only [appendIn, fCellsE_some h1]
    have h2 : bB (Nat.ble (off + sLen * size + news.length) c.size) (bB (allOne news) (bB c.ro none (some ⟨.slice (some (b, off)) (sLen + n) sCap ex, fset h b (.cells (fputA c (off + sLen * size) news) ty), rs, [b]⟩)) none) none = some pr := h2
    cases h3 : Nat.ble (off + sLen * size + news.length) c.size with
    | false => rw [h3] at h2; cases h2
    | true =>
      rw [h3, bB_true] at h2
      cases h5 : allOne news with
      | false => rw [h5] at h2; cases h2
      | true =>
        rw [h5, bB_true] at h2
        cases h6 : c.ro with
        | true => rw [h6] at h2; cases h2
        | false =>
          rw [h6, bB_false, fset_eq, fputA_eq] at h2
          exact h2
noncomputable def fAppOut (h : Heap) (e : TypeId) (base : Option (Nat × Nat)) (sCap : Nat) (ex : Bool) (size need : Nat) (olds news : List V) (rs : List Nat) : Option Pr := match base, ex with
  | some (b, off), false => oP (fCellsE h b) fun c ce => bB (Nat.beq ce e) (bB (Nat.beq (Nat.add off (Nat.mul sCap size)) c.size) (bB (allOne news) (bB c.ro none (some ⟨.slice (some (h.n, 0)) need need false, fpush (fset h b .dead) (.cells (Blk.of (olds ++ news)) e), rs, [b]⟩)) none) none) none
  | _, _ => some ⟨.slice (some (h.n, 0)) need need false, fpush h (.cells (Blk.of (olds ++ news)) e), rs, []⟩
theorem fAppOut_eq {h : Heap} {e : TypeId} {base : Option (Nat × Nat)} {sCap : Nat} {ex : Bool} {size need : Nat} {olds news : List V} {rs : List Nat} {pr : Pr} (g : fAppOut h e base sCap ex size need olds news rs = some pr) : appendOut h e base sCap ex size need olds news rs = some pr := by
  unfold fAppOut at g
  unfold appendOut
  split at g
  · rename_i b off
    obtain ⟨c, ty, h1, h2⟩ := oP_some g
    simp only [fCellsE_some h1]
    cases h3 : Nat.beq ty e with
    | false => rw [h3] at h2; cases h2
    | true =>
      rw [h3, bB_true] at h2
      have h2 : bB (Nat.beq (off + sCap * size) c.size) _ _ = some pr := h2
      cases h4 : Nat.beq (off + sCap * size) c.size with
      | false => rw [h4] at h2; cases h2
      | true =>
        rw [h4, bB_true] at h2
        cases h5 : allOne news with
        | false => rw [h5] at h2; cases h2
        | true =>
          rw [h5, bB_true] at h2
          cases h6 : c.ro with
          | true => rw [h6] at h2; cases h2
          | false =>
            rw [h6, bB_false, fset_eq, fpush_eq] at h2
            simp only [h6]
            exact h2
  · rw [fpush_eq] at g
    rename_i hne
    split
    · exact (hne _ _ rfl rfl).elim
    · exact g
noncomputable def cApp (P : Program) (t u : TypeId) : Bx (V → V → Heap → Option Pr) := match P.underlying t with
  | some (.slice e) => match P.info? e, zeroV P e, srcOk P u with
    | some i, some z, true => match i.size, i.bytes, Nat.beq z.cellsV.length i.size with
      | size, bytes, true => ⟨fun s x h => match s with
        | .slice base sLen sCap ex => oB (lenOfV x) fun n => oP (fFirst h size n x) fun news rs => bB (Nat.beq news.length (Nat.mul n size))
          (bB (Nat.ble (Nat.add sLen n) sCap) (fAppIn h base sLen sCap ex size n news rs)
            (oP (fFirst h size sLen s) fun olds rs' => bB (Nat.beq olds.length (Nat.mul sLen size)) (bB (Nat.ble (Nat.mul (Nat.add sLen n) bytes) 140737488355328) (bB (Nat.ble (Nat.add sLen n) 9223372036854775807) (fAppOut h e base sCap ex size (Nat.add sLen n) olds news (rs ++ rs')) none) none) none)) none
        | s => appendV P t u s x h⟩
      | _, _, false => ⟨fun s x h => appendV P t u s x h⟩
    | _, _, _ => ⟨fun s x h => appendV P t u s x h⟩
  | _ => ⟨fun s x h => appendV P t u s x h⟩
theorem cApp_eq {t u : TypeId} {s x : V} {h : Heap} {pr : Pr} (g : (cApp P t u).f s x h = some pr) : appendV P t u s x h = some pr := by
  unfold cApp at g
  split at g
  · rename_i e he
    split at g
    · rename_i i z hi hz hs
      split at g
      · rename_i hzl
        dsimp only at g
        split at g
        · rename_i base sLen sCap ex
          obtain ⟨n, h1, g⟩ := oB_some g
          obtain ⟨news, rs, h2, g⟩ := oP_some g
          have h2 := fFirst_eq h2
          unfold appendV
          simp only [he, hi, hz, appSrcV, hs, h1, h2]
          have g : bB (Nat.beq news.length (n * i.size)) _ _ = some pr := g
          cases h3 : Nat.beq news.length (n * i.size) with
          | false => rw [h3] at g; cases g
          | true =>
            rw [h3, bB_true] at g
            have g : bB (Nat.ble (sLen + n) sCap) _ _ = some pr := g
            simp only []
            cases h4 : Nat.ble (sLen + n) sCap with
            | true => rw [h4, bB_true] at g; exact fAppIn_eq g
            | false =>
              rw [h4, bB_false] at g
              obtain ⟨olds, rs', h5, g⟩ := oP_some g
              have h5 := fFirst_eq h5
              simp only [h5]
              have g : bB (Nat.beq olds.length (sLen * i.size)) (bB (Nat.ble ((sLen + n) * i.bytes) 140737488355328) (bB (Nat.ble (sLen + n) 9223372036854775807) _ none) none) none = some pr := g
              cases h6 : Nat.beq olds.length (sLen * i.size) with
              | false => rw [h6] at g; cases g
              | true =>
                rw [h6, bB_true] at g
                cases h7 : Nat.ble ((sLen + n) * i.bytes) 140737488355328 with
                | false => rw [h7] at g; cases g
                | true =>
                  rw [h7, bB_true] at g
                  cases h8 : Nat.ble (sLen + n) 9223372036854775807 with
                  | false => rw [h8] at g; cases g
                  | true =>
                    rw [h8, bB_true] at g
                    simp only [hzl]
                    exact fAppOut_eq g
        · exact g
      · exact g
    · exact g
  · exact g
noncomputable def cCopy (P : Program) (t : TypeId) : Bx (V → V → Heap → Option Pr) := match P.underlying t with
  | some (.slice e) => match szV P e with
    | some sz => ⟨fun d s h => match d with
      | .slice (some (b, off)) dLen _ _ => oB (lenOfV s) fun n => oP (fFirst h sz (Nat.min n dLen) s) fun vs rs => oP (fCellsE h b) fun c ce => bB (Nat.ble (Nat.add off vs.length) c.size) (bB (allOne vs) (bB c.ro none (some ⟨.int .i64 (Nat.min n dLen : Nat), fset h b (.cells (fputA c off vs) ce), rs, [b]⟩)) none) none
      | d => copyV P t d s h⟩
    | none => ⟨fun d s h => copyV P t d s h⟩
  | _ => ⟨fun d s h => copyV P t d s h⟩
theorem cCopy_eq {t : TypeId} {d s : V} {h : Heap} {pr : Pr} (g : (cCopy P t).f d s h = some pr) : copyV P t d s h = some pr := by
  unfold cCopy at g
  split at g
  · rename_i e he
    split at g
    · rename_i sz hsz
      dsimp only at g
      split at g
      · rename_i b off dLen dc ex
        obtain ⟨n, h1, g⟩ := oB_some g
        obtain ⟨vs, rs, h2, g⟩ := oP_some g
        obtain ⟨c, ce, h3, g⟩ := oP_some g
        have h2 := fFirst_eq h2
        unfold copyV
        simp only [he, hsz, h1, h2, fCellsE_some h3]
        have g : bB (Nat.ble (off + vs.length) c.size) _ _ = some pr := g
        cases h4 : Nat.ble (off + vs.length) c.size with
        | false => rw [h4] at g; cases g
        | true =>
          rw [h4, bB_true] at g
          cases h5 : allOne vs with
          | false => rw [h5] at g; cases g
          | true =>
            rw [h5, bB_true] at g
            cases h6 : c.ro with
            | true => rw [h6] at g; cases g
            | false =>
              rw [h6, bB_false, fset_eq, fputA_eq] at g
              exact g
      · exact g
    · exact g
  · exact g
noncomputable def cB (P : Program) (b : Builtin) (ts : Array TypeId) (l : List Operand) : Bx FOp := match b with
  | .len => match ts[0]? with
    | some t => ⟨fun tm h => oB ((cVs l).f tm) fun vs => match vs with
      | [x] => oP (lenV P t x h) fun n rs => some ⟨.int .i64 n, h, rs, []⟩
      | _ => none⟩
    | none => ⟨fun _ _ => none⟩
  | .append => match ts.toList with
    | [t, u] => ⟨fun tm h => oB ((cVs l).f tm) fun vs => match vs with
      | [s, x] => (cApp P t u).f s x h
      | _ => none⟩
    | _ => ⟨fun _ _ => none⟩
  | .copy => match ts[0]? with
    | some t => ⟨fun tm h => oB ((cVs l).f tm) fun vs => match vs with
      | [d, s] => (cCopy P t).f d s h
      | _ => none⟩
    | none => ⟨fun _ _ => none⟩
  | b => ⟨fun tm h => oB ((cVs l).f tm) fun vs => evB P h b ts vs⟩
theorem cB_eq {b : Builtin} {ts : Array TypeId} {l : List Operand} {tm : Tm} {h : Heap} {pr : Pr} (e : (cB P b ts l).f tm h = some pr) : ∃ vs, evVs tm l = some vs ∧ evB P h b ts vs = some pr := by
  unfold cB at e
  split at e
  · split at e
    · rename_i t ht
      obtain ⟨vs, h1, h2⟩ := oB_some e
      rw [cVs_eq] at h1
      refine ⟨vs, h1, ?_⟩
      split at h2
      · obtain ⟨n, rs, h3, h4⟩ := oP_some h2
        simp only [evB, ht, h3]; exact h4
      · cases h2
    · cases e
  · split at e
    · rename_i t u ht
      obtain ⟨vs, h1, h2⟩ := oB_some e
      rw [cVs_eq] at h1
      refine ⟨vs, h1, ?_⟩
      split at h2
      · simp only [evB, ht]; exact cApp_eq h2
      · cases h2
    · cases e
  · split at e
    · rename_i t ht
      obtain ⟨vs, h1, h2⟩ := oB_some e
      rw [cVs_eq] at h1
      refine ⟨vs, h1, ?_⟩
      split at h2
      · simp only [evB, ht]; exact cCopy_eq h2
      · cases h2
    · cases e
  · obtain ⟨vs, h1, h2⟩ := oB_some e
    rw [cVs_eq] at h1
    exact ⟨vs, h1, h2⟩
noncomputable def fStr (h : Heap) (v : V) : Option Pr := match v with
  | .slice (some (b, off)) len _ _ => oB (fCells h b) fun c => bB (Nat.ble (Nat.add off len) c.size) (oB (strL (fgets c off len)) fun l => some ⟨.str ⟨⟨l⟩⟩, h, [b], []⟩) none
  | _ => none
theorem fStr_eq {s d : TypeId} {e : TypeId} {h : Heap} {v : V} {pr : Pr} (hs : P.underlying s = some (.slice e)) (hd : P.underlying d = some .string) (he : P.underlying e = some (.int .u8)) (g : fStr h v = some pr) : ∃ u rs, convV P s d v h = some (u, rs) ∧ pr = ⟨u, h, rs, []⟩ := by
  unfold fStr at g
  split at g
  · rename_i b off len c ex
    obtain ⟨c, h1, g⟩ := oB_some g
    obtain ⟨t, hg⟩ := fCells_some h1
    have g : bB (Nat.ble (off + len) c.size) _ _ = some pr := g
    cases h2 : Nat.ble (off + len) c.size with
    | false => rw [h2] at g; cases g
    | true =>
      rw [h2, bB_true] at g
      obtain ⟨l, h3, g⟩ := oB_some g
      rw [fgets_eq] at h3
      refine ⟨_, _, ?_, (Option.some.inj g).symm⟩
      simp only [convV, hs, hd, he, hg, h2, h3]
  · cases g
noncomputable def fElse (x y : Option Pr) : Option Pr := Option.rec (motive := fun _ => Option Pr) y (fun p => some p) x
noncomputable def cBytes (P : Program) (s d e : TypeId) : Bx (V → Heap → Option Pr) := match P.underlying e with
  | some (.int .u8) => ⟨fun v h => fElse (fStr h v) (oP (convV P s d v h) fun u rs => some ⟨u, h, rs, []⟩)⟩
  | _ => ⟨fun v h => oP (convV P s d v h) fun u rs => some ⟨u, h, rs, []⟩⟩
theorem cBytes_eq {s d e : TypeId} {h : Heap} {v : V} {pr : Pr} (hs : P.underlying s = some (.slice e)) (hd : P.underlying d = some .string) (g : (cBytes P s d e).f v h = some pr) : ∃ u rs, convV P s d v h = some (u, rs) ∧ pr = ⟨u, h, rs, []⟩ := by
  have slow : oP (convV P s d v h) (fun u rs => some (⟨u, h, rs, []⟩ : Pr)) = some pr → ∃ u rs, convV P s d v h = some (u, rs) ∧ pr = ⟨u, h, rs, []⟩ := fun g => by
    obtain ⟨u, rs, h1, g⟩ := oP_some g
    exact ⟨u, rs, h1, (Option.some.inj g).symm⟩
  unfold cBytes at g
  split at g
  · rename_i he
    cases hf : fStr h v with
    | none => dsimp only at g; rw [hf] at g; exact slow g
    | some p => dsimp only at g; rw [hf] at g; cases g; exact fStr_eq hs hd he hf
  · exact slow g
noncomputable def cConv (P : Program) (s d : TypeId) : Bx (V → Heap → Option Pr) := match Nat.beq s d, P.underlying s, P.underlying d with
  | false, some (.slice e), some .string => cBytes P s d e
  | true, _, _ => ⟨fun v h => selfV P s v h⟩
  | false, some _, some (.int k) => ⟨fun v h => oP (selInt v) fun _ n => Int.rec (motive := fun _ => Option Pr) (fun m => some ⟨.int k (fwrap k m), h, [], []⟩) (fun m => some ⟨.int k (k.wrap (Int.negSucc m)), h, [], []⟩) n⟩
  | false, _, _ => ⟨fun v h => oP (convV P s d v h) fun u rs => some ⟨u, h, rs, []⟩⟩
noncomputable def cP (P : Program) (op : Op) : Bx FOp := match op with
  | .move x => ⟨fun tm h => oB ((cV x).f tm) fun v => fOut v h⟩
  | .assign x => ⟨fun tm h => oB ((cV x).f tm) fun v => fOut v h⟩
  | .pick c a b => ⟨fun tm h => oB (oB ((cV c).f tm) selBool) fun q => bB q (oB ((cV a).f tm) fun v => fOut v h) (oB ((cV b).f tm) fun v => fOut v h)⟩
  | .binOp op t x y _ => ⟨fun tm h => oB ((cV x).f tm) fun a => oB ((cV y).f tm) fun b => oB (oE (binN P op t x y a b) ((cBin P op t).f a b)) fun v => fOut v h⟩
  | .unOp op t x => ⟨fun tm h => oB ((cV x).f tm) fun a => oB (unV op a) fun v => fOut v h⟩
  | .nilCheck x => ⟨fun tm h => oB ((cV x).f tm) fun v => bB (notNil v) (fOut v h) none⟩
  | .extract x i => ⟨fun tm h => oB (oB ((cV x).f tm) selTuple) fun l => oB l[i]? fun v => fOut v h⟩
  | .fieldAddr s x f => match fieldOff P s f with
    | some k => ⟨fun tm h => oP (oB ((cV x).f tm) selPtr) fun b off => fOut (.ptr (some (b, Nat.add off k))) h⟩
    | none => ⟨fun _ _ => none⟩
  | .indexAddr t x y => ⟨fun tm h => oB ((cV x).f tm) fun a => oB ((cV y).f tm) fun b => oB ((cIdx P t).f a b) fun v => fOut v h⟩
  | .load t x => ⟨fun tm h => oP (oB ((cV x).f tm) selPtr) fun b off => oB ((cLoad P t).f b off h) fun v => some ⟨v, h, [b], []⟩⟩
  | .store t x y => ⟨fun tm h => oP (oB ((cV x).f tm) selPtr) fun b off => oB ((cV y).f tm) fun v => oB ((cStore P t).f b off v h) fun h' => some ⟨undefV, h', [], [b]⟩⟩
  | .box t x => ⟨fun tm h => oB ((cV x).f tm) fun v => some ⟨.ptr (some (h.n, 0)), fpush h (.cells (Blk.of v.cellsV) t), [], []⟩⟩
  | .alloc t => match zeroV P t with
    | some v => ⟨fun tm h => some ⟨.ptr (some (h.n, 0)), fpush h (.cells (Blk.of v.cellsV) t), [], []⟩⟩
    | none => ⟨fun _ _ => none⟩
  | .build t parts => ⟨fun tm h => oB (evParts tm parts.toList) fun ps => oB (builtV P t ps) fun r => fOut (.agg r) h⟩
  | .convert s d x => ⟨fun tm h => oB ((cV x).f tm) fun v => (cConv P s d).f v h⟩
  | .field t x f => ⟨fun tm h => oB ((cV x).f tm) fun v => match v with
    | .agg c => oB (fieldV P t c f) fun u => fOut u h
    | _ => none⟩
  | .slice t x lo hi mx => ⟨fun tm h => oB ((cV x).f tm) fun v => oB (evI tm lo) fun l => oB (evI tm hi) fun r => oB (evI tm mx) fun m => oB (sliceV P t v (l.map (·.2)) (r.map (·.2)) (m.map (·.2))) fun u => fOut u h⟩
  | .makeInterface t x => ⟨fun tm h => oB ((cV x).f tm) fun v => oB (ifaceV P t v) fun u => fOut u h⟩
  | .call ⟨.builtin b, args, ts⟩ => cB P b ts args.toList
  | op => ⟨slowP P op⟩
theorem cP_eq {o : Oper} {tm : Tm} {h : Heap} {pr : Pr} (e : (cP P o.op).f tm h = some pr) : evP P tm h o = some pr := by
  rw [← evP_bare]
  generalize o.op = op at e ⊢
  cases op <;> try exact e
  case move x => obtain ⟨v, h1, h2⟩ := oB_some e; rw [cV_eq] at h1; cases h2; simp only [evP, bareO, h1, one]
  case assign x => obtain ⟨v, h1, h2⟩ := oB_some e; rw [cV_eq] at h1; cases h2; simp only [evP, bareO, h1, one]
  case pick c a b =>
    obtain ⟨q, h1, h2⟩ := oB_some e
    obtain ⟨v, h3, h4⟩ := oB_some h1
    rw [cV_eq] at h3
    rw [selBool_some h4] at h3
    cases q with
    | true => obtain ⟨u, h5, h6⟩ := oB_some h2; rw [cV_eq] at h5; cases h6; simp only [evP, bareO, h3, h5, one]
    | false => obtain ⟨u, h5, h6⟩ := oB_some h2; rw [cV_eq] at h5; cases h6; simp only [evP, bareO, h3, h5, one]
  case binOp op t x y t' =>
    obtain ⟨a, h1, e⟩ := oB_some e
    obtain ⟨b, h2, e⟩ := oB_some e
    obtain ⟨v, h3, e⟩ := oB_some e
    rw [cV_eq] at h1 h2
    cases e
    have h4 : binN P op t x y a b = some v := (oE_some h3).elim (fun h => binN_of (cBin_eq h)) id
    simp only [evP, bareO, h1, h2, h4, one]
  case unOp op t x =>
    obtain ⟨a, h1, e⟩ := oB_some e
    obtain ⟨v, h3, e⟩ := oB_some e
    rw [cV_eq] at h1
    cases e
    simp only [evP, bareO, h1, h3, one]
  case nilCheck x =>
    obtain ⟨a, h1, e⟩ := oB_some e
    rw [cV_eq] at h1
    simp only [evP, bareO, h1]
    cases hn : notNil a with
    | true => rw [hn, bB_true] at e; cases e; rfl
    | false => rw [hn] at e; cases e
  case extract x i =>
    obtain ⟨l, h1, e⟩ := oB_some e
    obtain ⟨a, h2, h3⟩ := oB_some h1
    obtain ⟨v, h4, e⟩ := oB_some e
    rw [cV_eq, selTuple_some h3] at h2
    cases e
    simp only [evP, bareO, h2, h4, one]
  case fieldAddr s x f =>
    simp only [cP] at e
    split at e
    · rename_i k hk
      obtain ⟨b, off, h1, e⟩ := oP_some e
      obtain ⟨a, h2, h3⟩ := oB_some h1
      rw [cV_eq, selPtr_some h3] at h2
      cases e
      simp only [evP, bareO, h2, hk]
      rfl
    · cases e
  case indexAddr t x y =>
    obtain ⟨a, h1, e⟩ := oB_some e
    obtain ⟨b, h2, e⟩ := oB_some e
    obtain ⟨v, h3, e⟩ := oB_some e
    rw [cV_eq] at h1 h2
    cases e
    simp only [evP, bareO, h1, h2, cIdx_eq h3, one]
  case load t x =>
    obtain ⟨b, off, h1, e⟩ := oP_some e
    obtain ⟨a, h2, h3⟩ := oB_some h1
    obtain ⟨v, h4, e⟩ := oB_some e
    rw [cV_eq, selPtr_some h3] at h2
    cases e
    simp only [evP, bareO, h2, cLoad_eq h4]
  case store t x y =>
    obtain ⟨b, off, h1, e⟩ := oP_some e
    obtain ⟨a, h2, h3⟩ := oB_some h1
    obtain ⟨v, h4, e⟩ := oB_some e
    obtain ⟨h', h5, e⟩ := oB_some e
    rw [cV_eq, selPtr_some h3] at h2
    rw [cV_eq] at h4
    cases e
    simp only [evP, bareO, h2, h4, cStore_eq h5]
  case box t x =>
    obtain ⟨v, h1, e⟩ := oB_some e
    rw [cV_eq] at h1
    rw [fpush_eq] at e
    simp only [evP, bareO, h1]; exact e
  case alloc t =>
    simp only [cP] at e
    split at e
    · rename_i v hv
      simp only [fpush_eq] at e
      simp only [evP, bareO, hv]; exact e
    · cases e
  case build t parts =>
    obtain ⟨ps, h1, e⟩ := oB_some e
    obtain ⟨r, h2, e⟩ := oB_some e
    simp only [evP, bareO, h1, h2]; exact e
  case convert s d x =>
    obtain ⟨v, h1, e⟩ := oB_some e
    rw [cV_eq] at h1
    simp only [evP, bareO, h1]
    unfold cConv at e
    split at e
    · rename_i e' hb hs hd
      obtain ⟨u, rs, h2, e⟩ := cBytes_eq hs hd e
      simp only [hb, h2, e]
    · rename_i hb; simp only [hb]; exact e
    · rename_i a k hb hs hd
      obtain ⟨k', n, h2, e⟩ := oP_some e
      simp only [hb, convV, hs, hd, selInt_some h2]
      cases n with
      | ofNat m => rw [← fwrap_eq]; exact e
      | negSucc m => exact e
    · rename_i hb _
      obtain ⟨u, rs, h2, e⟩ := oP_some e
      have hb' : Nat.beq s d = false := by assumption
      simp only [hb', h2]; exact e
  case field t x f =>
    obtain ⟨v, h1, e⟩ := oB_some e
    rw [cV_eq] at h1
    split at e
    · obtain ⟨u, h2, e⟩ := oB_some e
      simp only [evP, bareO, h1, h2, one]; exact e
    · cases e
  case slice t x lo hi mx =>
    obtain ⟨v, h1, e⟩ := oB_some e
    obtain ⟨l, h2, e⟩ := oB_some e
    obtain ⟨r, h3, e⟩ := oB_some e
    obtain ⟨m, h4, e⟩ := oB_some e
    obtain ⟨u, h5, e⟩ := oB_some e
    rw [cV_eq] at h1
    simp only [evP, bareO, h1, h2, h3, h4, h5, one]; exact e
  case makeInterface t x =>
    obtain ⟨v, h1, e⟩ := oB_some e
    obtain ⟨u, h2, e⟩ := oB_some e
    rw [cV_eq] at h1
    simp only [evP, bareO, h1, h2, one]; exact e
  case call c =>
    obtain ⟨cl, args, ts⟩ := c
    cases cl <;> try exact e
    rename_i b
    obtain ⟨vs, h1, h2⟩ := cB_eq e
    simp only [evP, bareO, h1]; exact h2
end Go.Vm
