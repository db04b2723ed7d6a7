/- Code without what a walk does not look at: guards resolved, positions and edges struck. -/
import Derived.Test.YtdfihilgbeogbaaGreatV3
import Derived.IntWalk
import Derived.Test.YtdfihilgbeogbaaGreatV2
import Derived.Shelf.SortM.Plain
import Derived.Sort.OwnSortedInts
set_option linter.unusedVariables false
set_option linter.unusedSimpArgs false
set_option linter.unusedSimpArgs false
set_option linter.unusedVariables false
set_option linter.unusedSimpArgs false
namespace Go.Vm
variable {P : Program} {M : MP}

structure LO where
  dst : Option Tmp
  op : Op
  grd : Option (Tmp × Bool)
inductive LC where
  | skip
  | ops (l : List LO)
  | draw (l : List LO) (ps : List (Nat × Nat))
  | seq (a b : LC)
  | cond (c : Operand) (a b : LC)
  | block (id : Nat) (c : LC)
  | loop (c : LC)
  | exit (id : Nat)
  | ret
  | range (g : Operand) (ps : Array Tmp) (assign body : Code)
  | bad

def lowGrd (ops : List Oper) (g : Option (Nat × Bool)) : Option (Option (Tmp × Bool)) := match g with
  | none => some none
  | some (j, want) => match ops[j]? with
    | some o => match o.dst with
      | some t => some (some (t, want))
      | none => none
    | none => none
def lowOps (ops : List Oper) : List Oper → Option (List LO)
  | [] => some []
  | o :: r => match lowGrd ops o.guard with
    | some g => match lowOps ops r with
      | some l => some (⟨o.dst, o.op, g⟩ :: l)
      | none => none
    | none => none
def low : Code → LC
  | .skip => .skip
  | .label _ => .skip
  | .region _ ops draw => match lowOps ops.toList ops.toList with
    | some l => match draw with
      | false => .ops l
      | true => match staticOk ops.toList with
        | true => .draw l (openPairs ops.toList)
        | false => .bad
    | none => .bad
  | .seq a b => .seq (low a) (low b)
  | .cond c a b => .cond c (low a) (low b)
  | .block id c => .block id (low c)
  | .loop c => .loop (low c)
  | .exit id => .exit id
  | .ret => .ret
  | .scope c => low c
  | .rangeFunc g ps assign body => .range g ps assign body
  | _ => .bad

def bare (op : Op) : Oper := ⟨none, op, 0, "", #[], none⟩
def LOp (M : MP) (R W : Set') (tm : Tm) (h : Heap) (op : Op) (K : V → Heap → Prop) : Prop := SOp M R W tm h (bare op) K
def LOpD (P : Program) (tm : Tm) (h : Heap) (op : Op) (K : V → Heap → Set' → Set' → Prop) : Prop := SOpD P tm h (bare op) K
theorem LOp_eq {R W : Set'} {tm : Tm} {h : Heap} {o : Oper} {K : V → Heap → Prop} : SOp M R W tm h o K = LOp M R W tm h o.op K := by cases o; rfl
theorem LOpD_eq {tm : Tm} {h : Heap} {o : Oper} {K : V → Heap → Set' → Set' → Prop} : SOpD P tm h o K = LOpD P tm h o.op K := by cases o; rfl
def wantL (tm : Tm) (g : Option (Tmp × Bool)) : Option Bool := match g with
  | none => some true
  | some (t, want) => match tm.get t with
    | some (.bool b) => some (b == want)
    | some (.raw _) => none
    | some _ => some false
    | none => none
theorem wantL_eq {ops : List Oper} {o : Oper} {g : Option (Tmp × Bool)} (hg : lowGrd ops o.guard = some g) (tm : Tm) : wantV ops tm o = wantL tm g := by
  unfold lowGrd at hg
  unfold wantV wantL
  split at hg
  · rename_i e; cases hg; rw [e]
  · rename_i j want e
    rw [e]
    split at hg
    · rename_i q hq
      split at hg
      · rename_i t ht
        cases hg
        simp only [hq, ht]
        rfl
      · cases hg
    · cases hg

def LOps (M : MP) (R W : Set') : List LO → Tm → Heap → (Tm → Heap → Prop) → Prop
  | [], tm, h, K => K tm h
  | o :: l, tm, h, K => match wantL tm o.grd with
    | some true => LOp M R W tm h o.op fun v h' => LOps M R W l (tm.put o.dst v) h' K
    | some false => LOps M R W l (tm.put o.dst undefV) h K
    | none => False
def LDem (M : MP) (Rt Wt : Set') (ps : List (Nat × Nat)) (n : Nat) (rows : List RowP) (tm : Tm) (h : Heap) (op : Op) (K : V → Heap → Set' → Set' → Prop) : Prop := SDem M Rt Wt ps n rows tm h (bare op) K
def LRows (M : MP) (Rt Wt : Set') (ps : List (Nat × Nat)) (n : Nat) : List LO → Tm → Heap → List RowP → (Tm → Heap → List RowP → Prop) → Prop
  | [], tm, h, rows, K => K tm h rows
  | o :: l, tm, h, rows, K => match wantL tm o.grd with
    | some true => match isCall o.op with
      | false => LOpD M.P tm h o.op fun v h' R W => LRows M Rt Wt ps n l (tm.put o.dst v) h' (rows ++ [⟨R, W, h.n, h'.n⟩]) K
      | true => LOpD M.P tm h o.op (fun v h' R W => LRows M Rt Wt ps n l (tm.put o.dst v) h' (rows ++ [⟨R, W, h.n, h'.n⟩]) K) ∨ LDem M Rt Wt ps n rows tm h o.op fun v h' R W => LRows M Rt Wt ps n l (tm.put o.dst v) h' (rows ++ [⟨R, W, h.n, h'.n⟩]) K
    | some false => LRows M Rt Wt ps n l (tm.put o.dst undefV) h (rows ++ [⟨fun _ => False, fun _ => False, h.n, h.n⟩]) K
    | none => False
def LDraw (M : MP) (R W : Set') (l : List LO) (ps : List (Nat × Nat)) (tm : Tm) (h : Heap) (K : Tm → Heap → Prop) : Prop :=
  LRows M R W ps h.n l tm h [] fun tm' h' rows => pairsP rows ps ∧ footP R W h.n rows ∧ K tm' h'
def LS (M : MP) (R W : Set') (rd : Option Nat) : LC → Fr → Heap → (Ex → Fr → Heap → Prop) → Prop
  | .skip, f, h, Q => Q .norm f h
  | .ops l, f, h, Q => LOps M R W l f.tm h fun tm h' => Q .norm ⟨tm, f.mks⟩ h'
  | .draw l ps, f, h, Q => LDraw M R W l ps f.tm h fun tm h' => Q .norm ⟨tm, f.mks⟩ h'
  | .seq a b, f, h, Q => LS M R W rd a f h fun e f' h' => match e with
    | .norm => LS M R W rd b f' h' Q
    | .exit id => Q (.exit id) f' h'
    | .ret => Q .ret f' h'
  | .cond c a b, f, h, Q => match evV f.tm c with
    | some (.bool t) => match t with
      | true => LS M R W rd a f h Q
      | false => LS M R W rd b f h Q
    | _ => False
  | .block id c, f, h, Q => LS M R W rd c f h fun e f' h' => match e with
    | .norm => Q .norm f' h'
    | .exit id' => match Nat.beq id' id with
      | true => Q .norm f' h'
      | false => Q (.exit id') f' h'
    | .ret => Q .ret f' h'
  | .loop c, f, h, Q => ∀ c', low c' = c → SL M R W rd c' f h Q
  | .exit id, f, h, Q => Q (.exit id) f h
  | .ret, f, h, Q => Q .ret f h
  | .range g ps assign body, f, h, Q => SRange M R W rd g ps assign body f h Q
  | .bad, _, _, _ => False

theorem lowOps_S {R W : Set'} {ops : List Oper} {K : Tm → Heap → Prop} : ∀ (r : List Oper) (l : List LO) (tm : Tm) (h : Heap), lowOps ops r = some l → LOps M R W l tm h K → SOps M R W ops r tm h K
  | [], l, tm, h, hl, hs => by cases hl; exact hs
  | o :: r, l, tm, h, hl, hs => by
    unfold lowOps at hl
    split at hl
    · rename_i g hg
      split at hl
      · rename_i l' hl'
        cases hl
        simp only [LOps] at hs
        simp only [SOps, wantL_eq hg]
        split at hs
        · rename_i hw
          simp only [hw]
          rw [LOp_eq]
          exact LOp_mono hs fun v h' hk => lowOps_S r l' _ _ hl' hk
        · rename_i hw
          simp only [hw]
          exact lowOps_S r l' _ _ hl' hs
        · exact hs.elim
      · cases hl
    · cases hl
where
  LOp_mono {R W : Set'} {tm : Tm} {h : Heap} {op : Op} {K K' : V → Heap → Prop} (hs : LOp M R W tm h op K) (hk : ∀ v h', K v h' → K' v h') : LOp M R W tm h op K' := by
    exact SOp.mono hs hk
theorem lowRows_S {Rt Wt : Set'} {ps : List (Nat × Nat)} {n : Nat} {ops : List Oper} {K : Tm → Heap → List RowP → Prop} : ∀ (r : List Oper) (l : List LO) (tm : Tm) (h : Heap) (rows : List RowP), lowOps ops r = some l → LRows M Rt Wt ps n l tm h rows K → SRows M Rt Wt ps n ops r tm h rows K
  | [], l, tm, h, rows, hl, hs => by cases hl; exact hs
  | o :: r, l, tm, h, rows, hl, hs => by
    unfold lowOps at hl
    split at hl
    · rename_i g hg
      split at hl
      · rename_i l' hl'
        cases hl
        simp only [LRows] at hs
        simp only [SRows, wantL_eq hg]
        split at hs
        · rename_i hw
          simp only [hw]
          cases hc : isCall o.op with
          | false =>
            rw [hc] at hs
            simp only [] at hs ⊢
            rw [LOpD_eq]
            exact LOpD_mono hs fun v h' R W hk => lowRows_S r l' _ _ _ hl' hk
          | true =>
            rw [hc] at hs
            simp only [] at hs ⊢
            rw [LOpD_eq]
            refine hs.imp (fun hs => LOpD_mono hs fun v h' R W hk => lowRows_S r l' _ _ _ hl' hk) fun hs => ?_
            have := LDem_mono hs fun v h' R W hk => lowRows_S r l' _ _ _ hl' hk
            cases o; exact this
        · rename_i hw
          simp only [hw]
          exact lowRows_S r l' _ _ _ hl' hs
        · exact hs.elim
      · cases hl
    · cases hl
where
  LDem_mono {Rt Wt : Set'} {ps : List (Nat × Nat)} {n : Nat} {rows : List RowP} {tm : Tm} {h : Heap} {op : Op} {K K' : V → Heap → Set' → Set' → Prop} (hs : LDem M Rt Wt ps n rows tm h op K) (hk : ∀ v h' R W, K v h' R W → K' v h' R W) : LDem M Rt Wt ps n rows tm h op K' := by
    obtain ⟨h1, h2, R, W, h3, h4, h5⟩ := hs
    exact ⟨h1, h2, R, W, h3, h4, SOp.mono h5 fun v h' => hk v h' R W⟩
  LOpD_mono {P : Program} {tm : Tm} {h : Heap} {op : Op} {K K' : V → Heap → Set' → Set' → Prop} (hs : LOpD P tm h op K) (hk : ∀ v h' R W, K v h' R W → K' v h' R W) : LOpD P tm h op K' := by
    unfold LOpD SOpD at *
    split at hs
    · split at hs
      · split at hs
        · obtain ⟨hc, R, W, hs⟩ := hs
          exact ⟨hc, R, W, hs.mono fun v h' => hk v h' R W⟩
        · exact hs.elim
      · exact hs.elim
    · split at hs
      · split at hs
        · split at hs
          · obtain ⟨hc, R, W, hs⟩ := hs
            exact ⟨hc, R, W, hs.mono fun v h' => hk v h' R W⟩
          · exact hs.elim
        · exact hs.elim
      · exact hs.elim
    · split at hs
      · exact hk _ _ _ _ hs
      · exact hs.elim

theorem LS_S {R W : Set'} {rd : Option Nat} : ∀ (c : Code) (f : Fr) (h : Heap) (Q Q' : Ex → Fr → Heap → Prop), (∀ e f h, Q e f h → Q' e f h) → LS M R W rd (low c) f h Q → SC M R W rd c f h Q' := by
  intro c
  induction c with
  | skip => exact fun f h Q Q' hq hs => hq _ _ _ hs
  | label l => exact fun f h Q Q' hq hs => hq _ _ _ hs
  | exit id => exact fun f h Q Q' hq hs => hq _ _ _ hs
  | ret => exact fun f h Q Q' hq hs => hq _ _ _ hs
  | goto l => exact fun f h Q Q' hq hs => hs.elim
  | refuse why => exact fun f h Q Q' hq hs => hs.elim
  | region id ops draw =>
    intro f h Q Q' hq hs
    simp only [low] at hs
    split at hs
    · rename_i l hl
      split at hs
      · exact SOps_mono (lowOps_S _ _ _ _ hl hs) fun tm h' => hq _ _ _
      · split at hs
        · rename_i hst
          refine ⟨hst, lowRows_S _ _ _ _ _ hl ?_⟩
          exact LRows_mono hs fun tm h' rows ⟨h1, h2, h3⟩ => ⟨h1, h2, hq _ _ _ h3⟩
        · exact hs.elim
    · exact hs.elim
  | seq x y ihx ihy =>
    intro f h Q Q' hq hs
    refine ihx f h _ _ ?_ hs
    intro e f' h' hk
    cases e with
    | norm => exact ihy f' h' Q Q' hq hk
    | exit id => exact hq _ _ _ hk
    | ret => exact hq _ _ _ hk
  | cond c x y ihx ihy =>
    intro f h Q Q' hq hs
    simp only [low, LS] at hs
    simp only [SC]
    split at hs
    · rename_i t hc
      split at hs
      · simp only [hc]; exact ihx f h Q Q' hq hs
      · simp only [hc]; exact ihy f h Q Q' hq hs
    · exact hs.elim
  | block id x ih =>
    intro f h Q Q' hq hs
    refine ih f h _ _ ?_ hs
    intro e f' h' hk
    cases e with
    | norm => exact hq _ _ _ hk
    | ret => exact hq _ _ _ hk
    | exit id' =>
      simp only at hk ⊢
      split at hk
      · rename_i hb; rw [hb]; exact hq _ _ _ hk
      · rename_i hb; rw [hb]; exact hq _ _ _ hk
  | loop x ih =>
    intro f h Q Q' hq hs
    exact SL.mono (hs x rfl) hq
  | scope x ih => exact fun f h Q Q' hq hs => ih f h Q Q' hq hs
  | rangeFunc g ps assign body _ _ =>
    intro f h Q Q' hq hs
    exact SRange_mono hs hq
where
  SOps_mono {R W : Set'} {ops : List Oper} {K K' : Tm → Heap → Prop} : ∀ {l : List Oper} {tm : Tm} {h : Heap}, SOps M R W ops l tm h K → (∀ tm h, K tm h → K' tm h) → SOps M R W ops l tm h K'
    | [], tm, h, hs, hk => hk _ _ hs
    | o :: l, tm, h, hs, hk => by
      unfold SOps at hs ⊢
      cases hw : wantV ops tm o with
      | none => rw [hw] at hs; exact hs.elim
      | some t =>
        rw [hw] at hs
        cases t with
        | true =>
          change SOp M R W tm h o _ at hs
          show SOp M R W tm h o _
          rw [LOp_eq] at hs ⊢
          exact lowOps_S.LOp_mono hs fun v h' h1 => SOps_mono h1 hk
        | false => exact SOps_mono (l := l) hs hk
  LRows_mono {Rt Wt : Set'} {ps : List (Nat × Nat)} {n : Nat} {K K' : Tm → Heap → List RowP → Prop} : ∀ {l : List LO} {tm : Tm} {h : Heap} {rows : List RowP}, LRows M Rt Wt ps n l tm h rows K → (∀ tm h rows, K tm h rows → K' tm h rows) → LRows M Rt Wt ps n l tm h rows K'
    | [], tm, h, rows, hs, hk => hk _ _ _ hs
    | o :: l, tm, h, rows, hs, hk => by
      unfold LRows at hs ⊢
      cases hw : wantL tm o.grd with
      | none => rw [hw] at hs; exact hs.elim
      | some t =>
        rw [hw] at hs
        cases t with
        | true =>
          simp only [] at hs ⊢
          cases hc : isCall o.op with
          | false =>
            rw [hc] at hs
            exact lowRows_S.LOpD_mono (K := fun v h' R W => LRows M Rt Wt ps n l (tm.put o.dst v) h' (rows ++ [⟨R, W, h.n, h'.n⟩]) K) hs fun v h' R W h1 => LRows_mono h1 hk
          | true =>
            rw [hc] at hs
            exact hs.imp (fun hs => lowRows_S.LOpD_mono (K := fun v h' R W => LRows M Rt Wt ps n l (tm.put o.dst v) h' (rows ++ [⟨R, W, h.n, h'.n⟩]) K) hs fun v h' R W h1 => LRows_mono h1 hk) fun hs => lowRows_S.LDem_mono (K := fun v h' R W => LRows M Rt Wt ps n l (tm.put o.dst v) h' (rows ++ [⟨R, W, h.n, h'.n⟩]) K) hs fun v h' R W h1 => LRows_mono h1 hk
        | false => exact LRows_mono (l := l) hs hk
  SEnd_mono {W : Set'} {L : Nat} {f : Fr} {h : Heap} {Q Q' : Ex → Fr → Heap → Prop} (hs : SEnd W L f h Q) (hq : ∀ e f h, Q e f h → Q' e f h) : SEnd W L f h Q' := by
    unfold SEnd at *
    split at hs
    · obtain ⟨h1, h2, h3⟩ := hs
      refine ⟨h1, h2, ?_⟩
      split at h3
      · exact hq _ _ _ h3
      · exact hq _ _ _ h3
      · exact hq _ _ _ h3
      · exact h3.elim
    · exact hs.elim
  SRange_mono {R W : Set'} {rd : Option Nat} {g : Operand} {ps : Array Tmp} {assign body : Code} {f : Fr} {h : Heap} {Q Q' : Ex → Fr → Heap → Prop} (hs : SRange M R W rd g ps assign body f h Q) (hq : ∀ e f h, Q e f h → Q' e f h) : SRange M R W rd g ps assign body f h Q' := by
    unfold SRange at *
    split at hs
    · refine ⟨hs.1, ?_⟩
      have hs := hs.2
      split at hs
      · exact hs.mono fun v h2 he => SEnd_mono he hq
      · split at hs
        · exact ⟨hs.1, hs.2.mono fun v h2 he => SEnd_mono he hq⟩
        · exact hs.elim
    · exact hs.elim

theorem SF.low (hm : M.P.follows .mixedOrders = true) {f : FuncId} {fn : Func} {args : List V} {h : Heap} {R W : Set'} {Q : V → Heap → Prop} {ir : LC} {n : Nat} {rs : List ResultVar} (hf : M.P.funcs[f]? = some fn)
    (hir : (fn.body.map Vm.low, fn.ntmps, fn.results.toList) = (some ir, n, rs))
    (hs : LS M (fun b => h.n ≤ b ∨ R b) (fun b => h.n ≤ b ∨ W b) none ir ⟨initTm n args, []⟩ h fun e f' h' => match e with
      | .exit _ => False
      | _ => takeH (fun b => h.n ≤ b ∨ W b) f'.mks h' fun h2 => match evRes M.P f'.tm h2 rs with
        | some (vs, rr) => allB (fun b => h.n ≤ b ∨ R b) rr ∧ Q (retV vs) h2
        | none => False) : SF M f args h R W Q := by
  obtain ⟨h1, h2, h3⟩ := (by simpa using hir : fn.body.map Vm.low = some ir ∧ fn.ntmps = n ∧ fn.results.toList = rs)
  cases hb : fn.body with
  | none => simp [hb] at h1
  | some c =>
    simp [hb] at h1
    subst h1 h2 h3
    refine SF.of hm hf hb (LS_S c _ _ _ _ ?_ hs)
    intro e f' h' hk
    cases e with
    | norm => exact hk
    | ret => exact hk
    | exit id => exact hk
theorem SL.low (hm : M.P.follows .mixedOrders = true) {R W : Set'} {rd : Option Nat} {c' : Code} {c : LC} (hc : Vm.low c' = c) {Q : Ex → Fr → Heap → Prop} (I : Nat → Fr → Heap → Prop)
    (hI : ∀ k f h, I k f h → LS M R W rd c f h (Ex.next (fun f' h' => ∃ k', k' < k ∧ I k' f' h') Q)) (k : Nat) (f : Fr) (h : Heap) (h0 : I k f h) : SL M R W rd c' f h Q := by
  subst hc
  exact SL.inv hm I (fun k f h hi => LS_S c' f h _ _ (fun _ _ _ h => h) (hI k f h hi)) k f h h0

end Go.Vm
set_option linter.unusedVariables false
set_option linter.unusedSimpArgs false
namespace Go.Vm
variable {P : Program}

def YEnd (l : Nat) (Q : V → Heap → Prop) (e : Ex) (f : Fr) (h : Heap) : Prop :=
  ∃ lv, h.get l = some (.loop lv) ∧ Q (.bool e.jump.isNone) (h.set l (.loop { lv with state := if e.jump.isNone then .ready else .done, pending := e.jump }))
def YMid (M : MP) (R W : Set') (l : Nat) (body : Code) (Q : V → Heap → Prop) (e : Ex) (f : Fr) (h : Heap) : Prop :=
  e = .norm ∧ ∃ lv, h.get l = some (.loop lv) ∧ lv.state = .ready ∧ SC M R W (some l) body f (h.set l (.loop { lv with state := .busy })) (YEnd l Q)

theorem SY.of_body (hm : P.follows .mixedOrders = true) {l : Nat} {args : List V} {h : Heap} {R W : Set'} {Q : V → Heap → Prop} {lv : Loopv} {tm : Tm} (hg : h.get l = some (.loop lv)) (hR : R l) (hW : W l)
    (htm : setPs lv.tmps lv.params args = some tm) (ha : SC ⟨P, true⟩ R W (some l) lv.assign ⟨tm, []⟩ h (YMid ⟨P, true⟩ R W l lv.body Q)) : SY ⟨P, true⟩ l args h R W Q := by
  intro H σ w p hon his
  have ok1 := SC.okD hm _ _ _ _ ha
  have hl0 := Heap.get_lt hg
  have hHl : H l = some (.loop lv) := by rw [p.agree l hl0 (.inl hR), hg]
  obtain ⟨loc, hloc, lp, hw, hrel⟩ := p.inv.rel l _ hHl rfl
  have hb : σ.b l = loc.blk := Ren.b_eq hloc
  have hps := setPs_rel (σ := σ) lv.params args lv.tmps tm lp.tmps htm hrel.tmps hon
  refine ⟨lp.fn, (lp.params.zip (V.reL σ args).toArray).foldl (fun tmps (x : Tmp × Value) => tmps.setIfInBounds x.1 x.2) lp.tmps, lp.assign, lp.body, ?_, ?_⟩
  · rw [hb]
    have := run_yield (P := P) hw (args := (V.reL σ args).toArray) (by rw [hrel.params]; simp [V.reL_eq, hps.1])
    exact this
  · rw [hb]
    refine roundIn_of_wpIn trivial ?_
    rw [hrel.assign, hrel.body]
    have htr : TRel σ tm ((lp.params.zip (V.reL σ args).toArray).foldl (fun tmps (x : Tmp × Value) => tmps.setIfInBounds x.1 x.2) lp.tmps) := by
      rw [hrel.params, ← Array.foldl_toList]
      simpa using hps.2
    have hF : (FW none).inRound loc.blk = FW ((some l).map σ.b) := by simp [Fence.inRound, FW, hb]
    rw [hF]
    refine ok1 H σ w _ _ (fun l' h => by cases h; exact his) p ⟨htr, rfl, fun b h => by cases h⟩ fun e f1 h1 σ1 H1 a1 w1 q1 vf1 hf1 hs1 => ?_
    obtain ⟨rfl, lv1, hg1, hready, hbody⟩ := q1
    have ok2 := SC.okD hm _ _ _ _ hbody
    have p1 := p.snd vf1 hs1
    have hl1 := Heap.get_lt hg1
    -- the round begins
    have hH1 : H1 l = some (.loop lv1) := by rw [p1.agree l hl1 (.inr hW), hg1]
    obtain ⟨loc1, hloc1, lp1, hw1, hrel1⟩ := hs1.goes.inv.rel l _ hH1 rfl
    have hlb1 : loc1 = loc := by have := hs1.goes.le l loc hloc; rw [hloc1] at this; cases this; rfl
    subst hlb1
    have hlt1 : loc1.blk < w1.heap.size := (Array.getElem?_eq_some_iff.1 hw1).1
    have vfb : VF h1 (h1.set l (.loop { lv1 with state := .busy })) W := vf_set hl1 _ hW
    have hsb := step_set (w' := w1.putObj loc1.blk (.loop { lp1 with state := .busy })) (p1.to (h' := h1.set l (.loop { lv1 with state := .busy }))) hg1 rfl hW hloc1 (putObj_size _ _ _) (fun k hk => World.putObj_heap_other hk) rfl rfl rfl (by
      rw [World.putObj_heap_same hlt1]; exact ⟨_, rfl, { hrel1 with state := rfl }⟩)
    refine ⟨_, run_beginRound hw1 (by rw [hrel1.state]; exact hready), ?_⟩
    have pb := p1.snd vfb hsb
    have hF1 : FW ((some l).map σ.b) = FW ((some l).map σ1.b) := by simp [hb, Ren.b_eq hloc1]
    rw [hF1]
    refine ok2 _ σ1 _ a1 _ (fun l' h => by cases h; exact ⟨loc1, hloc1⟩) pb hf1 fun e f2 h2 σ2 H2 a2 w2 q2 vf2 hf2 hs2 => ?_
    obtain ⟨lv2, hg2, hq⟩ := q2
    have p2 := pb.snd vf2 hs2
    have hl2 := Heap.get_lt hg2
    -- the round ends
    have hH2 : H2 l = some (.loop lv2) := by rw [p2.agree l hl2 (.inr hW), hg2]
    obtain ⟨loc2, hloc2, lp2, hw2, hrel2⟩ := hs2.goes.inv.rel l _ hH2 rfl
    have hlb2 : loc2 = loc1 := by have := hs2.goes.le l loc1 hloc1; rw [hloc2] at this; cases this; rfl
    subst hlb2
    have hlt2 : loc2.blk < w2.heap.size := (Array.getElem?_eq_some_iff.1 hw2).1
    have vfe : VF h2 (h2.set l (.loop { lv2 with state := if e.jump.isNone then .ready else .done, pending := e.jump })) W := vf_set hl2 _ hW
    have hse := step_set (w' := w2.putObj loc2.blk (.loop { lp2 with state := if e.jump.isNone then .ready else .done, pending := e.jump })) (p2.to (h' := h2.set l (.loop { lv2 with state := if e.jump.isNone then .ready else .done, pending := e.jump }))) hg2 rfl hW hloc2 (putObj_size _ _ _) (fun k hk => World.putObj_heap_other hk) rfl rfl rfl (by
      rw [World.putObj_heap_same hlt2]; exact ⟨_, rfl, { hrel2 with state := rfl, pending := rfl }⟩)
    have hrun := run_endRound (P := P) e.jump hw2
    have hvf := ((vf1.trans vfb).trans vf2).trans vfe
    have hst := Step.trans p.to ((vf1.trans vfb).trans vf2) vfe (Step.trans p.to (vf1.trans vfb) vf2 (Step.trans p.to vf1 vfb hs1 hsb) hs2) hse
    have fin : ∃ v' w', (Instr.endRound loc2.blk e.jump).run P w2 = .ok v' w' ∧ ∃ x σ' H' v h', Q v h' ∧ VF h h' W ∧ Ending.returned v' = .returned x ∧ VRel σ' v x ∧ Step P h h' W H H' σ σ' w w' :=
      ⟨_, _, hrun, _, σ2, _, .bool e.jump.isNone, _, hq, hvf, rfl, ⟨trivial, rfl⟩, hst⟩
    cases e with
    | norm => exact fin
    | ret => exact fin
    | exit id => exact fin

end Go.Vm
set_option linter.unusedVariables false
set_option linter.unusedSimpArgs false
namespace Go.Vm
variable {P : Program} {M : MP}

def onO {α : Type} (x : Option α) (k : α → Prop) : Prop := match x with
  | some v => k v
  | none => False
theorem onO_some {α : Type} (v : α) (k : α → Prop) : onO (some v) k = k v := rfl
theorem onO_ite {α : Type} (c : Prop) [Decidable c] (v : α) (k : α → Prop) : onO (if c then some v else none) k = (c ∧ k v) := by
  by_cases h : c <;> simp [h, onO]
def onPtr (x : Option V) (k : Nat → Nat → Prop) : Prop := match x with
  | some (.ptr (some (b, off))) => k b off
  | _ => False
def onBool (x : Option V) (t e : Prop) : Prop := match x with
  | some (.bool true) => t
  | some (.bool false) => e
  | _ => False
section
variable (R W : Set') (tm : Tm) (h : Heap) (K : V → Heap → Prop)
theorem LOp_range (t : TypeId) (x : Operand) : LOp M R W tm h (.range t x) K = onO (evV tm x) fun a => onO (rangeV M.P t h a) fun r => allB R r.2 ∧ K (.ptr (some (h.n, 0))) (h.push r.1) := by
  unfold LOp SOp bare; simp only [evP]
  cases evV tm x with
  | none => simp [onO]
  | some a => simp only [onO_some]; cases hq : rangeV M.P t h a <;> simp [hq, onO, allB]
theorem LOp_entry (x : Operand) : LOp M R W tm h (.entry x) K = onPtr (evV tm x) fun b off => Nat.beq off 0 = true ∧ onO (entryV h b) fun r => allB R r.2 ∧ K r.1 h := by
  unfold LOp SOp bare onPtr; simp only [evP]
  cases evV tm x with
  | none => rfl
  | some a =>
    cases a <;> first | rfl | skip
    rename_i q
    rcases q with _ | ⟨b, off⟩
    · rfl
    · simp only []
      cases hz : Nat.beq off 0 with
      | false => simp
      | true => simp only [true_and]; cases hq : entryV h b <;> simp [hq, onO, allB]
theorem LOp_next (P : Program) (x : Operand) : LOp ⟨P, true⟩ R W tm h (.next x false) K = onPtr (evV tm x) fun b off => Nat.beq off 0 = true ∧ SNext R W h b K := by
  unfold LOp SOp bare onPtr; simp only []
  cases evV tm x with
  | none => rfl
  | some a =>
    cases a <;> first | rfl | skip
    rename_i q
    rcases q with _ | ⟨b, off⟩
    · rfl
    · cases off with
      | zero => simp
      | succ n => simp
theorem LOp_move (x : Operand) : LOp M R W tm h (.move x) K = onO (evV tm x) fun v => K v h := by
  unfold LOp SOp bare; simp only [evP]; cases evV tm x <;> simp [one, onO, allB]
theorem LOp_assign (x : Operand) : LOp M R W tm h (.assign x) K = onO (evV tm x) fun v => K v h := by
  unfold LOp SOp bare; simp only [evP]; cases evV tm x <;> simp [one, onO, allB]
theorem LOp_pick (c a b : Operand) : LOp M R W tm h (.pick c a b) K = onBool (evV tm c) (onO (evV tm a) fun v => K v h) (onO (evV tm b) fun v => K v h) := by
  unfold LOp SOp bare onBool; simp only [evP]
  split
  · rename_i pr hp
    split at hp
    · rename_i hc; obtain ⟨v, h1, rfl⟩ := one_some hp; simp [hc, h1, onO, allB]
    · rename_i hc; obtain ⟨v, h1, rfl⟩ := one_some hp; simp [hc, h1, onO, allB]
    · cases hp
  · rename_i hp
    split at hp
    · rename_i hc; cases h1 : evV tm a <;> simp [h1, one] at hp; simp [hc, onO]
    · rename_i hc; cases h1 : evV tm b <;> simp [h1, one] at hp; simp [hc, onO]
    · rename_i h1 h2
      split
      · rename_i hc; exact absurd hc h1
      · rename_i hc; exact absurd hc h2
      · rfl
theorem LOp_bin (op : BinOp) (t t' : TypeId) (x y : Operand) : LOp M R W tm h (.binOp op t x y t') K = onO (evV tm x) fun a => onO (evV tm y) fun b => onO (binN M.P op t x y a b) fun v => K v h := by
  unfold LOp SOp bare; simp only [evP]
  cases evV tm x with
  | none => simp [onO]
  | some a =>
    cases evV tm y with
    | none => simp [onO]
    | some b => simp only [onO_some]; cases binN M.P op t x y a b <;> simp [one, onO, allB]
theorem LOp_un (op : UnOp) (t : TypeId) (x : Operand) : LOp M R W tm h (.unOp op t x) K = onO (evV tm x) fun a => onO (unV op a) fun v => K v h := by
  unfold LOp SOp bare; simp only [evP]
  cases evV tm x with
  | none => simp [onO]
  | some a => simp only [onO_some]; cases unV op a <;> simp [one, onO, allB]
theorem LOp_nilCheck (x : Operand) : LOp M R W tm h (.nilCheck x) K = onO (evV tm x) fun v => notNil v = true ∧ K v h := by
  unfold LOp SOp bare; simp only [evP]
  cases evV tm x with
  | none => simp [onO]
  | some a => simp only [onO_some]; cases notNil a <;> simp [allB]
theorem LOp_extract (x : Operand) (i : Nat) : LOp M R W tm h (.extract x i) K = match evV tm x with
    | some (.tuple vs) => onO vs[i]? fun v => K v h
    | _ => False := by
  unfold LOp SOp bare; simp only [evP]
  cases evV tm x with
  | none => rfl
  | some a => cases a <;> first | rfl | (rename_i vs; cases hq : vs[i]? <;> simp [hq, one, onO, allB])
theorem LOp_fieldAddr (s : TypeId) (x : Operand) (f : Nat) : LOp M R W tm h (.fieldAddr s x f) K = onPtr (evV tm x) fun b off => onO (fieldOff M.P s f) fun k => K (.ptr (some (b, off + k))) h := by
  unfold LOp SOp bare onPtr; simp only [evP]
  split
  · rename_i pr hp
    split at hp
    · rename_i b off hx
      split at hp
      · rename_i k hf; cases hp; simp [hx, hf, onO, allB]
      · cases hp
    · cases hp
  · rename_i hp
    split at hp
    · rename_i b off hx
      split at hp
      · cases hp
      · rename_i hf; simp [hx, hf, onO]
    · rename_i hne
      split
      · rename_i b off hx; exact absurd hx (hne b off)
      · rfl
theorem LOp_load (t : TypeId) (x : Operand) : LOp M R W tm h (.load t x) K = onPtr (evV tm x) fun b off => R b ∧ onO (loadV M.P t h b off) fun v => K v h := by
  unfold LOp SOp bare onPtr; simp only [evP]
  split
  · rename_i pr hp
    split at hp
    · rename_i b off hx
      split at hp
      · rename_i k hf; cases hp; simp [hx, hf, onO, allB]
      · cases hp
    · cases hp
  · rename_i hp
    split at hp
    · rename_i b off hx
      split at hp
      · cases hp
      · rename_i hf; simp [hx, hf, onO]
    · rename_i hne
      split
      · rename_i b off hx; exact absurd hx (hne b off)
      · rfl
theorem LOp_store (t : TypeId) (x y : Operand) : LOp M R W tm h (.store t x y) K = onPtr (evV tm x) fun b off => onO (evV tm y) fun v => W b ∧ onO (storeV M.P t h b off v) fun h' => K undefV h' := by
  unfold LOp SOp bare onPtr; simp only [evP]
  split
  · rename_i pr hp
    split at hp
    · rename_i b off v hx hy
      split at hp
      · rename_i h' hf; cases hp; simp [hx, hy, hf, onO, allB]
      · cases hp
    · cases hp
  · rename_i hp
    split at hp
    · rename_i b off v hx hy
      split at hp
      · cases hp
      · rename_i hf; simp [hx, hy, hf, onO]
    · rename_i hne
      split
      · rename_i b off hx
        cases hy : evV tm y with
        | none => simp [onO]
        | some v => exact absurd hy (hne b off v hx)
      · rfl
theorem LOp_box (t : TypeId) (x : Operand) : LOp M R W tm h (.box t x) K = onO (evV tm x) fun v => K (.ptr (some (h.n, 0))) (h.push (.cells (Blk.of v.cellsV) t)) := by
  unfold LOp SOp bare; simp only [evP]; cases evV tm x <;> simp [onO, allB]
theorem LOp_alloc (t : TypeId) : LOp M R W tm h (.alloc t) K = onO (zeroV M.P t) fun v => K (.ptr (some (h.n, 0))) (h.push (.cells (Blk.of v.cellsV) t)) := by
  unfold LOp SOp bare; simp only [evP]; cases zeroV M.P t <;> simp [onO, allB]
theorem LOp_buildSlice (t : TypeId) (n : Nat) (ps : Array (Nat × Operand)) : LOp M R W tm h (.buildSlice t n ps) K = onO (evParts tm ps.toList) fun vs => onO (builtSliceV M.P t n vs) fun r => K (.slice (some (h.n, 0)) n n true) (h.push (.cells (Blk.of r.2) r.1)) := by
  unfold LOp SOp bare; simp only [evP]
  cases evParts tm ps.toList with
  | none => simp [onO]
  | some a => simp only [onO_some]; cases builtSliceV M.P t n a <;> simp [onO, allB]
theorem LOp_builtin (b : Builtin) (args : Array Operand) (ts : Array TypeId) : LOp M R W tm h (.call ⟨.builtin b, args, ts⟩) K = onO (evVs tm args.toList) fun vs => onO (evB M.P h b ts vs) fun pr => allB R pr.r ∧ allB W pr.w ∧ K pr.v pr.h := by
  unfold LOp SOp bare; simp only [evP]
  cases evVs tm args.toList with
  | none => simp [onO]
  | some a => simp only [onO_some]; cases evB M.P h b ts a <;> simp [onO]
theorem LOp_call (g : FuncId) (args : Array Operand) (ts : Array TypeId) : LOp M R W tm h (.call ⟨.value (.func g), args, ts⟩) K = onO (evVs tm args.toList) fun vs => callable M.P g = true ∧ SF M g vs h R W K := by
  unfold LOp SOp bare; simp only [evV_func]
  cases evVs tm args.toList with
  | none => simp [onO]
  | some a => simp [onO]
theorem LOp_callv (x : Operand) (args : Array Operand) (ts : Array TypeId) : LOp M R W tm h (.call ⟨.value x, args, ts⟩) K = match evV tm x with
    | some (.func g xs ys) => onO (evVs tm args.toList) fun vs => callable M.P g = true ∧ SF M g ((xs ++ vs) ++ ys) h R W K
    | some (.yield l) => onO (evVs tm args.toList) fun vs => SY M l vs h R W K
    | _ => False := by
  unfold LOp SOp bare; simp only []
  cases evV tm x with
  | none => rfl
  | some a => cases a <;> first | rfl | (cases evVs tm args.toList <;> simp [onO])
theorem LOp_invoke (x : Operand) (name : String) (args : Array Operand) (ts : Array TypeId) : LOp M R W tm h (.call ⟨.invoke x name, args, ts⟩) K = match evV tm x with
    | some (.iface t v) => onO (methV M.P t name) fun g => onO (evVs tm args.toList) fun vs => callable M.P g = true ∧ SF M g (v :: vs) h R W K
    | _ => False := by
  unfold LOp SOp bare; simp only []
  cases evV tm x with
  | none => rfl
  | some a => cases a <;> first | rfl | (simp only []; cases methV M.P _ name <;> first | rfl | (cases evVs tm args.toList <;> simp [onO]))
end

theorem LOpD_call (tm : Tm) (h : Heap) (K : V → Heap → Set' → Set' → Prop) (g : FuncId) (args : Array Operand) (ts : Array TypeId) : LOpD P tm h (.call ⟨.value (.func g), args, ts⟩) K = onO (evVs tm args.toList) fun vs => callable P g = true ∧ ∃ R W, SF (P : MP) g vs h R W fun v h' => K v h' R W := by
  unfold LOpD SOpD bare; simp only [evV_func]
  cases evVs tm args.toList with
  | none => simp [onO]
  | some a => simp [onO]
theorem LOps_cons (R W : Set') (d : Option Tmp) (op : Op) (l : List LO) (tm : Tm) (h : Heap) (K : Tm → Heap → Prop) : LOps M R W (⟨d, op, none⟩ :: l) tm h K = LOp M R W tm h op fun v h' => LOps M R W l (tm.put d v) h' K := rfl
theorem LOps_nil (R W : Set') (tm : Tm) (h : Heap) (K : Tm → Heap → Prop) : LOps M R W [] tm h K = K tm h := rfl
theorem LOps_guard (R W : Set') (d : Option Tmp) (op : Op) (t : Tmp) (want : Bool) (l : List LO) (tm : Tm) (h : Heap) (K : Tm → Heap → Prop) :
    LOps M R W (⟨d, op, some (t, want)⟩ :: l) tm h K = match wantL tm (some (t, want)) with
      | some true => LOp M R W tm h op fun v h' => LOps M R W l (tm.put d v) h' K
      | some false => LOps M R W l (tm.put d undefV) h K
      | none => False := rfl
theorem wantL_some (tm : Tm) (t : Tmp) (want : Bool) : wantL tm (some (t, want)) = match tm.get t with
    | some (.bool b) => some (b == want)
    | some (.raw _) => none
    | some _ => some false
    | none => none := rfl

theorem Ex.next_eq (K : Fr → Heap → Prop) (Q : Ex → Fr → Heap → Prop) (e : Ex) (f : Fr) (h : Heap) : Ex.next K Q e f h = match e with
    | .norm => K f h
    | .exit id => Q (.exit id) f h
    | .ret => Q .ret f h := by cases e <;> rfl
theorem onO_eq {α : Type} (x : Option α) (k : α → Prop) : onO x k = match x with
    | some v => k v
    | none => False := rfl
theorem onPtr_eq (x : Option V) (k : Nat → Nat → Prop) : onPtr x k = match x with
    | some (.ptr (some (b, off))) => k b off
    | _ => False := rfl
theorem onBool_eq (x : Option V) (t e : Prop) : onBool x t e = match x with
    | some (.bool true) => t
    | some (.bool false) => e
    | _ => False := rfl

theorem beq_ft : (false == true) = false := rfl
theorem beq_tf : (true == false) = false := rfl
theorem beq_tt : (true == true) = true := rfl
theorem beq_ff : (false == false) = true := rfl
def rangesOf : Code → List (Code × Code)
  | .seq a b => rangesOf a ++ rangesOf b
  | .cond _ a b => rangesOf a ++ rangesOf b
  | .block _ c => rangesOf c
  | .loop c => rangesOf c
  | .scope c => rangesOf c
  | .rangeFunc _ _ a b => [(a, b)]
  | _ => []

end Go.Vm
namespace Go.Vm
attribute [go_sem ↓] LOps_cons LOps_nil LOps_guard LOp_move LOp_assign LOp_pick LOp_bin LOp_un LOp_nilCheck LOp_extract LOp_fieldAddr LOp_load LOp_store LOp_box LOp_alloc LOp_buildSlice LOp_builtin LOp_range LOp_entry LOp_next LOp_call LOp_callv onO_ite onO_eq onPtr_eq onBool_eq Ex.next_eq
attribute [go_sem] beq_ft beq_tf beq_tt beq_ff LS wantL_some one evV_tmp evV_func evV_bool evV_int evV_str evV_nilp evV_nils evV_nilm evV_nilf evV_nili Tm.put_some Tm.put_none initTm setL Tm.set_mk Tm.get_mk Tr.get_node Tr.put_node Tr.put_nil Tr.get_nil binN nilsV binW binA binV eqSmall notNil loadV storeV evVs evB lenV lenOfV intBin intShift unV takeH evRes retV allB idxAddr evI evParts SRange SEnd V.cellsV allOne V.one
end Go.Vm
set_option linter.unusedVariables false
set_option linter.unusedSimpArgs false
namespace Go.Vm
variable {P : Program}

section
variable (tm : Tm) (h : Heap) (K : V → Heap → Set' → Set' → Prop)
end
attribute [go_sem ↓] LOpD_call
attribute [go_sem] pairsP footP ApartP

end Go.Vm
set_option linter.unusedVariables false
set_option linter.unusedSimpArgs false
namespace Go.Vm
variable {P : Program} {M : MP}

inductive It where
  | ops (l : List LO)
  | code (c : LC)
  | blk (id : Nat)

def resume (M : MP) (R W : Set') (rd : Option Nat) (Q : Ex → Fr → Heap → Prop) : List It → Ex → Fr → Heap → Prop
  | [], e, f, h => Q e f h
  | .blk id :: t, e, f, h => match e with
    | .norm => resume M R W rd Q t .norm f h
    | .exit id' => match Nat.beq id' id with
      | true => resume M R W rd Q t .norm f h
      | false => resume M R W rd Q t (.exit id') f h
    | .ret => resume M R W rd Q t .ret f h
  | .ops l :: t, e, f, h => match e with
    | .norm => LOps M R W l f.tm h fun tm h' => resume M R W rd Q t .norm ⟨tm, f.mks⟩ h'
    | .exit id => resume M R W rd Q t (.exit id) f h
    | .ret => resume M R W rd Q t .ret f h
  | .code c :: t, e, f, h => match e with
    | .norm => LS M R W rd c f h (resume M R W rd Q t)
    | .exit id => resume M R W rd Q t (.exit id) f h
    | .ret => resume M R W rd Q t .ret f h

section
variable (R W : Set') (rd : Option Nat) (Q : Ex → Fr → Heap → Prop) (t : List It) (f : Fr) (h : Heap)
def GO (M : MP) (R W : Set') (rd : Option Nat) (Q : Ex → Fr → Heap → Prop) (t : List It) (f : Fr) (h : Heap) : Prop := resume M R W rd Q t .norm f h
def GCall (M : MP) (R W : Set') (rd : Option Nat) (Q : Ex → Fr → Heap → Prop) (g : FuncId) (vs : List V) (d : Option Tmp) (l : List LO) (t : List It) (f : Fr) (h : Heap) : Prop :=
  SF M g vs h R W fun v h' => GO M R W rd Q (.ops l :: t) ⟨f.tm.put d v, f.mks⟩ h'
def GYield (M : MP) (R W : Set') (rd : Option Nat) (Q : Ex → Fr → Heap → Prop) (y : Nat) (vs : List V) (d : Option Tmp) (l : List LO) (t : List It) (f : Fr) (h : Heap) : Prop :=
  SY M y vs h R W fun v h' => GO M R W rd Q (.ops l :: t) ⟨f.tm.put d v, f.mks⟩ h'
def GLoop (M : MP) (R W : Set') (rd : Option Nat) (Q : Ex → Fr → Heap → Prop) (c : LC) (t : List It) (f : Fr) (h : Heap) : Prop :=
  ∀ c', low c' = c → SL M R W rd c' f h (resume M R W rd Q t)
def GRange (M : MP) (R W : Set') (rd : Option Nat) (Q : Ex → Fr → Heap → Prop) (g : Operand) (ps : Array Tmp) (a b : Code) (t : List It) (f : Fr) (h : Heap) : Prop := SRange M R W rd g ps a b f h (resume M R W rd Q t)
def GRows (M : MP) (R W : Set') (rd : Option Nat) (Q : Ex → Fr → Heap → Prop) (l : List LO) (ps : List (Nat × Nat)) (n : Nat) (rows : List RowP) (t : List It) (f : Fr) (h : Heap) : Prop :=
  LRows M R W ps n l f.tm h rows fun tm' h' rows => pairsP rows ps ∧ footP R W n rows ∧ GO M R W rd Q t ⟨tm', f.mks⟩ h'
def GCallD (M : MP) (R W : Set') (rd : Option Nat) (Q : Ex → Fr → Heap → Prop) (g : FuncId) (vs : List V) (d : Option Tmp) (l : List LO) (ps : List (Nat × Nat)) (n : Nat) (rows : List RowP) (t : List It) (f : Fr) (h : Heap) : Prop :=
  (∃ R' W', SF (M.P : MP) g vs h R' W' fun v h' => GRows M R W rd Q l ps n (rows ++ [⟨R', W', h.n, h'.n⟩]) t ⟨f.tm.put d v, f.mks⟩ h') ∨
  (M.dem = true ∧ (ps.all fun p => !Nat.beq p.1 rows.length) = true ∧ ∃ R' W', pairsP (rows ++ [⟨R', W', h.n, h.n⟩]) (ps.filter fun p => Nat.ble p.2 rows.length) ∧ footP R W n (rows ++ [⟨R', W', h.n, h.n⟩]) ∧ SF M g vs h R' W' fun v h' => GRows M R W rd Q l ps n (rows ++ [⟨R', W', h.n, h'.n⟩]) t ⟨f.tm.put d v, f.mks⟩ h')

theorem go_nil : GO M R W rd Q [] f h = Q .norm f h := rfl
theorem go_seq (a b : LC) : GO M R W rd Q (.code (.seq a b) :: t) f h = GO M R W rd Q (.code a :: .code b :: t) f h := by
  show LS M R W rd a f h _ = LS M R W rd a f h _
  congr 1
theorem go_ops (l : List LO) : GO M R W rd Q (.code (.ops l) :: t) f h = GO M R W rd Q (.ops l :: t) f h := rfl
theorem go_skip : GO M R W rd Q (.code .skip :: t) f h = GO M R W rd Q t f h := rfl
theorem go_block (id : Nat) (c : LC) : GO M R W rd Q (.code (.block id c) :: t) f h = GO M R W rd Q (.code c :: .blk id :: t) f h := by
  show LS M R W rd c f h _ = LS M R W rd c f h _
  congr 1
theorem go_blk (id : Nat) : GO M R W rd Q (.blk id :: t) f h = GO M R W rd Q t f h := rfl
theorem go_cond (c : Operand) (a b : LC) : GO M R W rd Q (.code (.cond c a b) :: t) f h = match evV f.tm c with
    | some (.bool x) => match x with
      | true => GO M R W rd Q (.code a :: t) f h
      | false => GO M R W rd Q (.code b :: t) f h
    | _ => False := rfl
theorem go_loop (c : LC) : GO M R W rd Q (.code (.loop c) :: t) f h = GLoop M R W rd Q c t f h := rfl
theorem go_range (g : Operand) (ps : Array Tmp) (a b : Code) : GO M R W rd Q (.code (.range g ps a b) :: t) f h = GRange M R W rd Q g ps a b t f h := rfl
theorem go_exit (id : Nat) : GO M R W rd Q (.code (.exit id) :: t) f h = resume M R W rd Q t (.exit id) f h := rfl
theorem resume_exit_nil (id : Nat) : resume M R W rd Q [] (.exit id) f h = Q (.exit id) f h := rfl
theorem resume_exit_ops (id : Nat) (l : List LO) : resume M R W rd Q (.ops l :: t) (.exit id) f h = resume M R W rd Q t (.exit id) f h := rfl
theorem resume_exit_code (id : Nat) (c : LC) : resume M R W rd Q (.code c :: t) (.exit id) f h = resume M R W rd Q t (.exit id) f h := rfl
theorem resume_exit_blk (id id' : Nat) : resume M R W rd Q (.blk id' :: t) (.exit id) f h = if id = id' then GO M R W rd Q t f h else resume M R W rd Q t (.exit id) f h := by
  show (match Nat.beq id id' with | true => _ | false => _) = _
  cases hb : Nat.beq id id' with
  | true => rw [if_pos (Nat.eq_of_beq_eq_true hb)]; rfl
  | false => rw [if_neg fun e => by subst e; simp at hb]
theorem resume_ret : resume M R W rd Q t .ret f h = Q .ret f h := by
  induction t with
  | nil => rfl
  | cons x t ih => cases x <;> exact ih
theorem resume_norm : resume M R W rd Q t .norm f h = GO M R W rd Q t f h := rfl
theorem go_ret : GO M R W rd Q (.code .ret :: t) f h = Q .ret f h := resume_ret R W rd Q t f h
theorem go_ops_nil : GO M R W rd Q (.ops [] :: t) f h = GO M R W rd Q t ⟨f.tm, f.mks⟩ h := rfl
theorem go_ops_cons (d : Option Tmp) (op : Op) (l : List LO) : GO M R W rd Q (.ops (⟨d, op, none⟩ :: l) :: t) f h = LOp M R W f.tm h op fun v h' => GO M R W rd Q (.ops l :: t) ⟨f.tm.put d v, f.mks⟩ h' := rfl
theorem go_ops_guard (d : Option Tmp) (op : Op) (tt : Tmp) (want : Bool) (l : List LO) : GO M R W rd Q (.ops (⟨d, op, some (tt, want)⟩ :: l) :: t) f h = match wantL f.tm (some (tt, want)) with
    | some true => GO M R W rd Q (.ops (⟨d, op, none⟩ :: l) :: t) f h
    | some false => GO M R W rd Q (.ops l :: t) ⟨f.tm.put d undefV, f.mks⟩ h
    | none => False := rfl
theorem go_call (d : Option Tmp) (g : FuncId) (args : Array Operand) (ts : Array TypeId) (l : List LO) : GO M R W rd Q (.ops (⟨d, .call ⟨.value (.func g), args, ts⟩, none⟩ :: l) :: t) f h = match evVs f.tm args.toList with
    | some vs => callable M.P g = true ∧ GCall M R W rd Q g vs d l t f h
    | none => False := by
  rw [go_ops_cons, LOp_call]; cases evVs f.tm args.toList <;> rfl
theorem go_callv (d : Option Tmp) (x : Tmp) (args : Array Operand) (ts : Array TypeId) (l : List LO) : GO M R W rd Q (.ops (⟨d, .call ⟨.value (.tmp x), args, ts⟩, none⟩ :: l) :: t) f h = match f.tm.get x with
    | some (.func g xs ys) => (match evVs f.tm args.toList with
      | some vs => callable M.P g = true ∧ GCall M R W rd Q g ((xs ++ vs) ++ ys) d l t f h
      | none => False)
    | some (.yield y) => (match evVs f.tm args.toList with
      | some vs => GYield M R W rd Q y vs d l t f h
      | none => False)
    | _ => False := by
  rw [go_ops_cons, LOp_callv, evV_tmp]
  cases f.tm.get x with
  | none => rfl
  | some a => cases a <;> first | rfl | (cases evVs f.tm args.toList <;> rfl)
theorem go_invoke (d : Option Tmp) (x : Tmp) (name : String) (args : Array Operand) (ts : Array TypeId) (l : List LO) : GO M R W rd Q (.ops (⟨d, .call ⟨.invoke (.tmp x) name, args, ts⟩, none⟩ :: l) :: t) f h = match f.tm.get x with
    | some (.iface ty v) => (match methV M.P ty name with
      | some g => (match evVs f.tm args.toList with
        | some vs => callable M.P g = true ∧ GCall M R W rd Q g (v :: vs) d l t f h
        | none => False)
      | none => False)
    | _ => False := by
  rw [go_ops_cons, LOp_invoke, evV_tmp]
  cases f.tm.get x with
  | none => rfl
  | some a => cases a <;> first | rfl | (simp only []; cases methV M.P _ name <;> first | rfl | (cases evVs f.tm args.toList <;> rfl))
theorem go_draw (l : List LO) (ps : List (Nat × Nat)) : GO M R W rd Q (.code (.draw l ps) :: t) f h = GRows M R W rd Q l ps h.n [] t f h := rfl
theorem grows_nil (ps : List (Nat × Nat)) (n : Nat) (rows : List RowP) : GRows M R W rd Q [] ps n rows t f h = (pairsP rows ps ∧ footP R W n rows ∧ GO M R W rd Q t ⟨f.tm, f.mks⟩ h) := rfl
theorem grows_guard (d : Option Tmp) (op : Op) (tt : Tmp) (want : Bool) (l : List LO) (ps : List (Nat × Nat)) (n : Nat) (rows : List RowP) : GRows M R W rd Q (⟨d, op, some (tt, want)⟩ :: l) ps n rows t f h = match wantL f.tm (some (tt, want)) with
    | some true => GRows M R W rd Q (⟨d, op, none⟩ :: l) ps n rows t f h
    | some false => GRows M R W rd Q l ps n (rows ++ [⟨fun _ => False, fun _ => False, h.n, h.n⟩]) t ⟨f.tm.put d undefV, f.mks⟩ h
    | none => False := rfl
end
attribute [go_sem ↓] go_nil go_seq go_ops go_skip go_block go_blk go_cond go_loop go_range go_exit go_ret go_ops_nil go_ops_cons go_ops_guard resume_exit_nil resume_exit_ops resume_exit_code resume_exit_blk resume_ret resume_norm go_draw grows_nil grows_guard
attribute [go_sem ↓ high] go_call go_callv go_invoke

theorem GCall.of {R W : Set'} {rd : Option Nat} {Q : Ex → Fr → Heap → Prop} {g : FuncId} {vs : List V} {d : Option Tmp} {l : List LO} {t : List It} {f : Fr} {h : Heap} {K : V → Heap → Prop} (hc : SF M g vs h R W K) (hk : ∀ v h', K v h' → GO M R W rd Q (.ops l :: t) ⟨f.tm.put d v, f.mks⟩ h') : GCall M R W rd Q g vs d l t f h := hc.mono hk
theorem GCallD.of {R W R' W' : Set'} {rd : Option Nat} {Q : Ex → Fr → Heap → Prop} {g : FuncId} {vs : List V} {d : Option Tmp} {l : List LO} {ps : List (Nat × Nat)} {n : Nat} {rows : List RowP} {t : List It} {f : Fr} {h : Heap} {K : V → Heap → Prop} (hc : SF (M.P : MP) g vs h R' W' K)
    (hk : ∀ v h', K v h' → GRows M R W rd Q l ps n (rows ++ [⟨R', W', h.n, h'.n⟩]) t ⟨f.tm.put d v, f.mks⟩ h') : GCallD M R W rd Q g vs d l ps n rows t f h := .inl ⟨R', W', hc.mono hk⟩
theorem GCallD.dem {R W R' W' : Set'} {rd : Option Nat} {Q : Ex → Fr → Heap → Prop} {g : FuncId} {vs : List V} {d : Option Tmp} {l : List LO} {ps : List (Nat × Nat)} {n : Nat} {rows : List RowP} {t : List It} {f : Fr} {h : Heap} {K : V → Heap → Prop} (hc : SF ⟨P, true⟩ g vs h R' W' K)
    (hf : (ps.all fun p => !Nat.beq p.1 rows.length) = true) (hp : pairsP (rows ++ [⟨R', W', h.n, h.n⟩]) (ps.filter fun p => Nat.ble p.2 rows.length)) (ho : footP R W n (rows ++ [⟨R', W', h.n, h.n⟩]))
    (hk : ∀ v h', K v h' → GRows ⟨P, true⟩ R W rd Q l ps n (rows ++ [⟨R', W', h.n, h'.n⟩]) t ⟨f.tm.put d v, f.mks⟩ h') : GCallD ⟨P, true⟩ R W rd Q g vs d l ps n rows t f h := .inr ⟨rfl, hf, R', W', hp, ho, hc.mono hk⟩
def Fin (M : MP) (R W : Set') (rs : List ResultVar) (Q : V → Heap → Prop) (e : Ex) (f : Fr) (h : Heap) : Prop := match e with
  | .exit _ => False
  | _ => takeH W f.mks h fun h2 => match evRes M.P f.tm h2 rs with
    | some (vs, rr) => allB R rr ∧ Q (retV vs) h2
    | none => False
theorem fin_ret (R W : Set') (rs : List ResultVar) (Q : V → Heap → Prop) (tm : Tm) (h : Heap) : Fin M R W rs Q .ret ⟨tm, []⟩ h = match evRes M.P tm h rs with
    | some (vs, rr) => allB R rr ∧ Q (retV vs) h
    | none => False := rfl
theorem fin_norm (R W : Set') (rs : List ResultVar) (Q : V → Heap → Prop) (tm : Tm) (h : Heap) : Fin M R W rs Q .norm ⟨tm, []⟩ h = match evRes M.P tm h rs with
    | some (vs, rr) => allB R rr ∧ Q (retV vs) h
    | none => False := rfl
theorem fin_ret_marks (R W : Set') (rs : List ResultVar) (Q : V → Heap → Prop) (tm : Tm) (b : Nat) (bs : List Nat) (h : Heap) : Fin M R W rs Q .ret ⟨tm, b :: bs⟩ h = takeH W (b :: bs) h fun h2 => match evRes M.P tm h2 rs with
    | some (vs, rr) => allB R rr ∧ Q (retV vs) h2
    | none => False := rfl
theorem fin_norm_marks (R W : Set') (rs : List ResultVar) (Q : V → Heap → Prop) (tm : Tm) (b : Nat) (bs : List Nat) (h : Heap) : Fin M R W rs Q .norm ⟨tm, b :: bs⟩ h = takeH W (b :: bs) h fun h2 => match evRes M.P tm h2 rs with
    | some (vs, rr) => allB R rr ∧ Q (retV vs) h2
    | none => False := rfl
attribute [go_sem ↓] fin_ret fin_norm fin_ret_marks fin_norm_marks
theorem SF.go (hm : M.P.follows .mixedOrders = true) {f : FuncId} {fn : Func} {args : List V} {h : Heap} {R W : Set'} {Q : V → Heap → Prop} {ir : LC} {n : Nat} {rs : List ResultVar} (hf : M.P.funcs[f]? = some fn)
    (hir : (fn.body.map Vm.low, fn.ntmps, fn.results.toList) = (some ir, n, rs))
    (hs : GO M (fun b => h.n ≤ b ∨ R b) (fun b => h.n ≤ b ∨ W b) none (Fin M (fun b => h.n ≤ b ∨ R b) (fun b => h.n ≤ b ∨ W b) rs Q) [.code ir] ⟨initTm n args, []⟩ h) : SF M f args h R W Q :=
  SF.low hm hf hir hs
theorem GLoop.inv (hm : M.P.follows .mixedOrders = true) {R W : Set'} {rd : Option Nat} {c : LC} {t : List It} {Q : Ex → Fr → Heap → Prop} (I : Nat → Fr → Heap → Prop) (k : Nat) {f : Fr} {h : Heap} (h0 : I k f h)
    (hI : ∀ k f h, I k f h → GO M R W rd (fun e f' h' => match e with
      | .norm => ∃ k', k' < k ∧ I k' f' h'
      | .exit id => resume M R W rd Q t (.exit id) f' h'
      | .ret => Q .ret f' h') [.code c] f h) : GLoop M R W rd Q c t f h := by
  intro c' hc
  refine SL.low hm hc I (fun k f h hi => ?_) k f h h0
  have := hI k f h hi
  have e : (fun e f' h' => match e with
      | .norm => ∃ k', k' < k ∧ I k' f' h'
      | .exit id => resume M R W rd Q t (.exit id) f' h'
      | .ret => Q .ret f' h') = Ex.next (fun f' h' => ∃ k', k' < k ∧ I k' f' h') (resume M R W rd Q t) := by
    funext e f' h'
    cases e
    · rfl
    · rfl
    · exact (resume_ret R W rd Q t f' h').symm
  rw [e] at this
  exact this

theorem GRange.outer {R W : Set'} {Q : Ex → Fr → Heap → Prop} {g : Operand} {ps : Array Tmp} {a b : Code} {t : List It} {f : Fr} {h : Heap} {k : FuncId} {xs ys : List V} (hg : evV f.tm g = some (.func k xs ys)) (hc : callable M.P k = true)
    (hs : SF M k ((xs ++ [.yield (h.n + 1)]) ++ ys) ((h.push (.deferred true)).push (.loop ⟨.ready, none, f.tm, ps.toList, a, b, h.n⟩)) R W fun _ h2 => ∃ lv, h2.get (h.n + 1) = some (.loop lv) ∧ lv.state ≠ .busy ∧ W (h.n + 1) ∧
      (match lv.pending with
      | none => GO M R W none Q t ⟨f.tm, h.n :: f.mks⟩ (h2.set (h.n + 1) (.loop { lv with state := .exhausted }))
      | some .ret => Q .ret ⟨f.tm, h.n :: f.mks⟩ (h2.set (h.n + 1) (.loop { lv with state := .exhausted }))
      | some (.exit id) => resume M R W none Q t (.exit id) ⟨f.tm, h.n :: f.mks⟩ (h2.set (h.n + 1) (.loop { lv with state := .exhausted }))
      | _ => False)) : GRange M R W none Q g ps a b t f h := by
  unfold GRange SRange
  rw [hg]
  refine ⟨hc, hs.mono fun v h2 ⟨lv, h1, h2', h3, h4⟩ => ?_⟩
  unfold SEnd
  rw [h1]
  refine ⟨h2', h3, ?_⟩
  split at h4
  · rename_i hp; simp only [hp] at h4 ⊢; exact h4
  · rename_i hp; simp only [hp, resume_ret] at h4 ⊢; exact h4
  · rename_i id hp; simp only [hp] at h4 ⊢; exact h4
  · exact h4.elim
theorem GYield.of {R W : Set'} {rd : Option Nat} {Q : Ex → Fr → Heap → Prop} {y : Nat} {vs : List V} {d : Option Tmp} {l : List LO} {t : List It} {f : Fr} {h : Heap} {K : V → Heap → Prop} (hc : SY M y vs h R W K) (hk : ∀ v h', K v h' → GO M R W rd Q (.ops l :: t) ⟨f.tm.put d v, f.mks⟩ h') : GYield M R W rd Q y vs d l t f h := hc.mono hk
theorem SY.go {P : Program} (hm : P.follows .mixedOrders = true) {l : Nat} {args : List V} {h : Heap} {R W : Set'} {Q : V → Heap → Prop} {lv : Loopv} {tm : Tm} {ca cb : LC} (hg : h.get l = some (.loop lv)) (hR : R l) (hW : W l)
    (htm : setPs lv.tmps lv.params args = some tm) (ha : Vm.low lv.assign = ca) (hb : Vm.low lv.body = cb)
    (hs : GO ⟨P, true⟩ R W (some l) (fun e f1 h1 => e = .norm ∧ ∃ lv1, h1.get l = some (.loop lv1) ∧ lv1.state = .ready ∧ GO ⟨P, true⟩ R W (some l) (fun e f2 h2 => ∃ lv2, h2.get l = some (.loop lv2) ∧ Q (.bool e.jump.isNone) (h2.set l (.loop { lv2 with state := if e.jump.isNone then .ready else .done, pending := e.jump })))
      [.code cb] f1 (h1.set l (.loop { lv1 with state := .busy }))) [.code ca] ⟨tm, []⟩ h) : SY ⟨P, true⟩ l args h R W Q := by
  subst ha hb
  refine SY.of_body hm hg hR hW htm (LS_S lv.assign _ _ _ _ ?_ hs)
  rintro e f1 h1 ⟨rfl, lv1, h2, h3, h4⟩
  exact ⟨rfl, lv1, h2, h3, LS_S lv.body _ _ _ _ (fun _ _ _ hq => hq) h4⟩
attribute [irreducible] GO resume GCall GYield GLoop GRange GRows GCallD Fin
end Go.Vm
namespace Go.Vm
structure LSt where
  ls : List LC
  rs : List (Code × Code)
  ol : List LC
  oa : List LC
  ob : List LC
def lowS : Code → LSt → LC × LSt
  | .seq a b, s => match lowS a s with
    | (x, s1) => match lowS b s1 with
      | (y, s2) => (.seq x y, s2)
  | .cond c a b, s => match lowS a s with
    | (x, s1) => match lowS b s1 with
      | (y, s2) => (.cond c x y, s2)
  | .block id c, s => match lowS c s with
    | (x, s1) => (.block id x, s1)
  | .scope c, s => lowS c s
  | .loop c, s => match lowS c s with
    | (x, ⟨ls, rs, ol, oa, ob⟩) => match ls with
      | [] => (.loop x, ⟨[], rs, ol ++ [x], oa, ob⟩)
      | l :: r => (.loop l, ⟨r, rs, ol ++ [x], oa, ob⟩)
  | .rangeFunc g ps a b, ⟨ls, rs, ol, oa, ob⟩ => match rs with
    | [] => (.range g ps a b, ⟨ls, [], ol, oa, ob⟩)
    | p :: t => match lowS a ⟨ls, t, ol, oa, ob⟩ with
      | (x, s1) => match lowS b s1 with
        | (y, ⟨ls, rs, ol, oa, ob⟩) => (.range g ps p.1 p.2, ⟨ls, rs, ol, oa ++ [x], ob ++ [y]⟩)
  | c, s => (low c, s)
def lowF (f : Func) (ls : List LC) (rs : List (Code × Code)) : LC × LSt := match f.body with
  | some c => lowS c ⟨ls, rs, [], [], []⟩
  | none => (.bad, ⟨[], [], [], [], []⟩)
def nthC : List LC → Nat → LC
  | [], _ => .bad
  | a :: _, 0 => a
  | _ :: r, i + 1 => nthC r i
def ir0 (f : Func) (ls : List LC) (rs : List (Code × Code)) : LC := (lowF f ls rs).1
def irl (f : Func) (ls : List LC) (rs : List (Code × Code)) (i : Nat) : LC := nthC (lowF f ls rs).2.ol i
def ira (f : Func) (ls : List LC) (rs : List (Code × Code)) (i : Nat) : LC := nthC (lowF f ls rs).2.oa i
def irb (f : Func) (ls : List LC) (rs : List (Code × Code)) (i : Nat) : LC := nthC (lowF f ls rs).2.ob i
def atP : LC → List Nat → LC
  | .seq a b, i :: r => match i with
    | 0 => atP a r
    | _ => atP b r
  | .cond _ a b, i :: r => match i with
    | 0 => atP a r
    | _ => atP b r
  | .block _ c, _ :: r => atP c r
  | c, _ => c
def putP : LC → List Nat → LC → LC
  | .seq a b, i :: r, x => match i with
    | 0 => .seq (putP a r x) b
    | _ => .seq a (putP b r x)
  | .cond c a b, i :: r, x => match i with
    | 0 => .cond c (putP a r x) b
    | _ => .cond c a (putP b r x)
  | .block n c, _ :: r, x => .block n (putP c r x)
  | _, _, x => x
theorem mk_arr {α : Type} (l : List α) : Array.mk l = l.toArray := rfl
def pk {α : Type} (f g : α) (_ : f = g := by conv => lhs; reduce; try simp only [Int.reduceOfNat, mk_arr]) : α := g
theorem pk_eq {α : Type} (f g : α) (h : f = g) : pk f g h = g := rfl
attribute [go_sem ↓] pk_eq
def rcs (f : Func) (i : Nat) : Code × Code := (((f.body.map rangesOf).getD [])[i]?).getD (.skip, .skip)
abbrev IrV (f : Func) : Option LC × Nat × List ResultVar := (f.body.map low, f.ntmps, f.results.toList)
end Go.Vm
set_option linter.unusedVariables false
set_option linter.unusedSimpArgs false
namespace Go.Vm
variable {P : Program} {M : MP}

theorem Inv.kept {H : HF} {σ : Ren} {w w' : World} (hi : Inv P H σ w) (hr : ∀ k, k < w.heap.size → w'.heap[k]? = w.heap[k]?) : Inv P H σ w' := by
  refine ⟨fun b o hb hd => ?_, hi.inj, hi.fin⟩
  obtain ⟨l, hl, hb'⟩ := hi.rel b o hb hd
  refine ⟨l, hl, ?_⟩
  rw [hr _ (hi.lt ⟨o, hb, hd⟩ hl)]
  exact hb'

theorem FnOk.closed {f : FuncId} {b : Bool} {h' : Heap} {R W : Set'} (hf : FnOk P f [] ⟨0, .nil⟩ (.bool b) h' R W) (h : Heap) (R' W' : Set') : FnOk P f [] h (.bool b) h R' W' := by
  refine ⟨VF.refl h W', fun H σ w p hon => ?_⟩
  have p0 : Pre P ⟨0, .nil⟩ h' R W (fun _ => none) (fun _ => none) w :=
    ⟨fun b hb => by simp at hb, fun b _ => ⟨rfl, rfl⟩, ⟨fun b o h => (by cases h), fun a b la lb ⟨o, h, _⟩ => (by cases h), ⟨0, fun _ _ => ⟨rfl, rfl⟩⟩⟩⟩
  have hc := hf.2 (fun _ => none) (fun _ => none) w p0 trivial
  refine CallsIn.mono (show CallsIn (FW none) 0 P f (V.reL σ []).toArray w _ from hc) ?_
  rintro e w' ⟨x, σ', H', rfl, hx, hs⟩
  have hreal : ∀ k, k < w.heap.size → w'.heap[k]? = w.heap[k]? := fun k hk => hs.goes.real k hk fun b l ⟨o, ho, _⟩ => by cases ho
  refine ⟨x, σ, H, rfl, ⟨trivial, hx.2⟩, ⟨⟨Ren.le_refl _, fun _ _ h => .inl h, p.inv.kept hreal, fun _ _ _ => rfl, fun _ _ h => h, fun b l hn => ?_, fun k hk _ => hreal k hk, hs.goes.size, hs.goes.os, hs.goes.tape, hs.goes.output⟩, fun b hb => ?_⟩⟩
  · unfold New at hn; omega
  · rcases hb with hb | hb
    · unfold New at hb; omega
    · exact p.agree b hb.1 (.inr hb.2)
theorem SF.closed (hm : P.follows .mixedOrders = true) {f : FuncId} {L n : Nat} (hr : isTrue (evInv P L n (.fn f) [] s0) = true) (h : Heap) (R W : Set') : SF (P : MP) f [] h R W fun v h' => v = .bool true ∧ h' = h := by
  obtain ⟨s, hs⟩ := isTrue_some hr
  exact ⟨.bool true, h, ⟨rfl, rfl⟩, ((evInv_good hm L n).fn _ _ _ _ _ hs).closed h R W⟩
theorem SF.run (hm : P.follows .mixedOrders = true) {f : FuncId} {L n : Nat} {args : List V} {s : St} {v : V} {s' : St} (hr : evInv P L n (.fn f) args s = some (v, s')) : ∃ R W : Set', FnOk P f args s.h v s'.h R W := ⟨_, _, (evInv_good hm L n).fn _ _ _ _ _ hr⟩

theorem SF.eval (hm : P.follows .mixedOrders = true) {f : FuncId} {L n : Nat} {args : List V} {h : Heap} {v : V} {s' : St} (hr : evInv P L n (.fn f) args ⟨h, 0, [], []⟩ = some (v, s')) {R W : Set'} (hR : ∀ b, R b) (hW : ∀ b, W b) : SF (P : MP) f args h R W fun v' h' => v' = v ∧ h' = s'.h :=
  ⟨v, s'.h, ⟨rfl, rfl⟩, ((evInv_good hm L n).fn _ _ _ _ _ hr).mono (fun b _ => hR b) (fun b _ => hW b)⟩

theorem bneI (a b : Int) : (a != b) = !(a == b) := rfl
theorem ble_succ (a b : Nat) : Nat.ble (a + 1) b = Nat.blt a b := rfl
theorem puts_one (b : Blk) (o : Nat) (v : V) : b.puts o [v] = b.set o v := rfl
attribute [go_sem] bneI ble_succ puts_one
attribute [go_sem] Tr.get_put
theorem foot_nil (n : Nat) (X : Nat → Prop) : (∀ b, b < n → b ∈ ([] : List Nat) → X b) = True := eq_true fun _ _ h => by cases h
theorem foot_one (n x : Nat) (X : Nat → Prop) : (∀ b, b < n → b ∈ [x] → X b) = (x < n → X x) := propext ⟨fun h hx => h x hx (List.mem_singleton.2 rfl), fun h b hb hm => by rw [List.mem_singleton.1 hm] at hb ⊢; exact h hb⟩
attribute [go_sem ↓] foot_nil foot_one
theorem Heap.lt_of_get {h : Heap} {b : Nat} {o : O} (e : h.get b = some o) : b < h.n := by
  rcases Nat.lt_or_ge b h.n with h' | h'
  · exact h'
  · rw [Heap.get, blt_false (Nat.not_lt.2 h')] at e; cases e
end Go.Vm
set_option linter.unusedVariables false
set_option linter.unusedSimpArgs false
namespace Go.Vm
variable {P : Program}

structure EntsOk (es : Ents) (clock : Nat) : Prop where
  nodup : (es.map (·.2.2)).Nodup
  lt : ∀ e ∈ es, e.2.2 < clock
theorem EntsOk.nil : EntsOk [] 0 := ⟨by simp, by simp⟩
theorem EntsOk.push {es : Ents} {c : Nat} (h : EntsOk es c) (k v : V) : EntsOk (es ++ [(k, v, c)]) (c + 1) := by
  refine ⟨?_, fun e he => ?_⟩
  · rw [List.map_append, List.nodup_append]
    refine ⟨h.nodup, by simp, fun a ha b hb => ?_⟩
    simp at hb; subst hb
    obtain ⟨e, he, rfl⟩ := List.mem_map.1 ha
    have := h.lt e he; omega
  · rcases List.mem_append.1 he with h' | h'
    · have := h.lt e h'; omega
    · simp at h'; subst h'; simp
theorem EntsOk.set {es : Ents} {c : Nat} (h : EntsOk es c) {i : Nat} {e : V × V × Nat} (hi : es[i]? = some e) (k v : V) : EntsOk (es.set i (k, v, e.2.2)) c := by
  have hm : (es.set i (k, v, e.2.2)).map (·.2.2) = es.map (·.2.2) := by
    rw [List.map_set]
    apply List.ext_getElem?
    intro j
    rw [List.getElem?_set]
    by_cases hj : i = j
    · subst hj
      have hl : i < es.length := (List.getElem?_eq_some_iff.1 hi).1
      rw [if_pos rfl, if_pos (by simpa using hl), List.getElem?_map, hi]; rfl
    · rw [if_neg hj]
  refine ⟨by rw [hm]; exact h.nodup, fun e' he' => ?_⟩
  rcases List.mem_or_eq_of_mem_set he' with h' | h'
  · exact h.lt e' h'
  · subst h'; exact h.lt e (List.mem_of_getElem? hi)
theorem EntsOk.erase {es : Ents} {c : Nat} (h : EntsOk es c) (i : Nat) : EntsOk (es.eraseIdx i) c := by
  refine ⟨?_, fun e he => h.lt e (List.mem_of_mem_eraseIdx he)⟩
  rw [← map_eraseIdx]
  exact h.nodup.sublist (List.eraseIdx_sublist _ _)

theorem nodup_of_map {α β : Type} {f : α → β} : ∀ {l : List α}, (l.map f).Nodup → l.Nodup
  | [], _ => by simp
  | a :: l, h => by
    rw [List.map_cons, List.nodup_cons] at h
    rw [List.nodup_cons]
    exact ⟨fun ha => h.1 (List.mem_map.2 ⟨a, ha, rfl⟩), nodup_of_map h.2⟩
theorem nodup_inj {α β : Type} {f : α → β} : ∀ {l : List α}, (l.map f).Nodup → ∀ {a b : α}, a ∈ l → b ∈ l → f a = f b → a = b
  | [], _, a, b, ha, _, _ => by cases ha
  | x :: l, h, a, b, ha, hb, e => by
    rw [List.map_cons, List.nodup_cons] at h
    rcases List.mem_cons.1 ha with rfl | ha
    · rcases List.mem_cons.1 hb with rfl | hb
      · rfl
      · exact absurd (List.mem_map.2 ⟨b, hb, e.symm⟩) h.1
    · rcases List.mem_cons.1 hb with h' | hb
      · exact absurd (List.mem_map.2 ⟨a, ha, e.trans (by rw [h'])⟩) h.1
      · exact nodup_inj h.2 ha hb e
theorem nodup_length : ∀ {l m : List Nat}, l.Nodup → (∀ a ∈ l, a ∈ m) → l.length ≤ m.length
  | [], m, _, _ => Nat.zero_le _
  | a :: l, m, h, hs => by
    rw [List.nodup_cons] at h
    have ha := hs a (by simp)
    have := nodup_length (l := l) (m := m.erase a) h.2 fun b hb => (List.mem_erase_of_ne (fun e => by subst e; exact h.1 hb)).2 (hs b (by simp [hb]))
    rw [List.length_erase_of_mem ha] at this
    have := List.length_pos_of_mem ha
    simp; omega
structure Seen (es : Ents) (seen : List Nat) (l : Ents) : Prop where
  stamps : l.map (·.2.2) = seen
  sub : ∀ e ∈ l, e ∈ es
  nodup : seen.Nodup
theorem Seen.nil (es : Ents) : Seen es [] [] := ⟨rfl, by simp, by simp⟩
theorem Seen.step {es l : Ents} {seen : List Nat} (h : Seen es seen l) {e : V × V × Nat} (he : e ∈ es) (hn : e.2.2 ∉ seen) : Seen es (seen ++ [e.2.2]) (l ++ [e]) := by
  refine ⟨by simp [h.stamps], fun x hx => ?_, ?_⟩
  · rcases List.mem_append.1 hx with h' | h'
    · exact h.sub x h'
    · simp at h'; subst h'; exact he
  · rw [List.nodup_append]
    refine ⟨h.nodup, by simp, fun a ha b hb => ?_⟩
    simp at hb; subst hb
    exact fun e => hn (e ▸ ha)
theorem Seen.nodup_l {es l : Ents} {seen : List Nat} (h : Seen es seen l) : l.Nodup := by
  have := h.nodup
  rw [← h.stamps] at this
  exact nodup_of_map this
theorem Seen.last {es l : Ents} {seen : List Nat} {c : Nat} (h : Seen es seen l) (hes : EntsOk es c) (hall : ∀ e ∈ es, e.2.2 ∈ seen) : l.Perm es := by
  have hd : es.Nodup := nodup_of_map hes.nodup
  have key : ∀ a, a ∈ l ↔ a ∈ es := by
    intro a
    refine ⟨h.sub a, fun ha => ?_⟩
    have := hall a ha
    rw [← h.stamps] at this
    obtain ⟨b, hb, hab⟩ := List.mem_map.1 this
    have hb' := h.sub b hb
    have : b = a := nodup_inj hes.nodup hb' ha hab
    exact this ▸ hb
  exact (List.perm_ext_iff_of_nodup h.nodup_l hd).2 key
theorem Seen.length {es l : Ents} {seen : List Nat} (h : Seen es seen l) : l.length ≤ es.length := by
  have := nodup_length (l := seen) (m := es.map (·.2.2)) h.nodup fun a ha => by
    rw [← h.stamps] at ha
    obtain ⟨e, he, rfl⟩ := List.mem_map.1 ha
    exact List.mem_map.2 ⟨e, h.sub e he, rfl⟩
  rw [← h.stamps] at this
  simpa using this

theorem find_stamp {es : Ents} {c : Nat} (h : EntsOk es c) {e : V × V × Nat} (he : e ∈ es) : es.find? (fun x => Nat.beq x.2.2 e.2.2) = some e := by
  cases hf : es.find? (fun x => Nat.beq x.2.2 e.2.2) with
  | none => have := List.find?_eq_none.1 hf e he; simp at this
  | some x =>
    have h1 := List.mem_of_find?_eq_some hf
    have h2 := List.find?_some hf
    have h3 := Nat.eq_of_beq_eq_true h2
    rw [nodup_inj h.nodup h1 he h3]

theorem entry_at {g : Heap} {b m since : Nat} {seen : List Nat} {es : Ents} {ck : Nat} {e : V × V × Nat} (hb : g.get b = some (.iter (some m) since (seen ++ [e.2.2]) ck)) (hm : g.get m = some (.map es ck)) (hok : EntsOk es ck) (he : e ∈ es) :
    entryV g b = some (.tuple [e.1, e.2.1], [b, m]) := by
  unfold entryV
  simp only [hb, List.getLast?_append, List.getLast?_singleton, Option.some_or, hm]
  rw [show Nat.beq ck ck = true by simp, find_stamp hok he]

end Go.Vm
set_option linter.unusedVariables false
set_option linter.unusedSimpArgs false
namespace Go.Vm

theorem w_blt_t {a b : Nat} (h : a < b) : Nat.blt a b = true := blt_true h
theorem w_blt_f {a b : Nat} (h : b ≤ a) : Nat.blt a b = false := blt_false (by omega)
theorem w_ble_t {a b : Nat} (h : a ≤ b) : Nat.ble a b = true := by rw [Nat.ble_eq]; exact h
theorem w_ble_f {a b : Nat} (h : b < a) : Nat.ble a b = false := by
  cases hb : Nat.ble a b with
  | false => rfl
  | true => rw [Nat.ble_eq] at hb; omega
theorem w_beq_t {a b : Nat} (h : a = b) : Nat.beq a b = true := by subst h; simp
theorem w_beq_f {a b : Nat} (h : a ≠ b) : Nat.beq a b = false := by
  cases hb : Nat.beq a b with
  | false => rfl
  | true => exact absurd (Nat.eq_of_beq_eq_true hb) h
theorem w_ilt_t {a b : Int} (h : a < b) : decide (a < b) = true := decide_eq_true h
theorem w_ilt_f {a b : Int} (h : b ≤ a) : decide (a < b) = false := decide_eq_false (by omega)
theorem w_ile_t {a b : Int} (h : a ≤ b) : decide (a ≤ b) = true := decide_eq_true h
theorem w_ile_f {a b : Int} (h : b < a) : decide (a ≤ b) = false := decide_eq_false (by omega)
theorem w_ieq_t {a b : Int} (h : a = b) : (a == b) = true := by simpa using h
theorem w_ieq_f {a b : Int} (h : a ≠ b) : (a == b) = false := by simpa using h
theorem w_idx {α : Type} {i n : Int} (h0 : 0 ≤ i) (h1 : i < n) (v : α) (k : α → Prop) : onO (if 0 ≤ i ∧ i < n then some v else none) k = k v := by rw [if_pos ⟨h0, h1⟩]; rfl
theorem w_ite {α : Type} {i n : Int} (h0 : 0 ≤ i) (h1 : i < n) (a b : α) : (if 0 ≤ i ∧ i < n then a else b) = a := if_pos ⟨h0, h1⟩
theorem w_push_eq {h : Heap} {b : Nat} (e : b = h.n) (o : O) : (h.push o).get b = some o := by rw [Heap.get_push, if_pos e]
theorem w_push_ne {h : Heap} {b : Nat} (e : b ≠ h.n) (o : O) : (h.push o).get b = h.get b := by rw [Heap.get_push, if_neg e]
theorem w_set_eq {h : Heap} {b c : Nat} (hb : b < h.n) (e : c = b) (o : O) : (h.set b o).get c = some o := by rw [Heap.get_set h b c o hb, if_pos e]
theorem w_set_ne {h : Heap} {b c : Nat} (hb : b < h.n) (e : c ≠ b) (o : O) : (h.set b o).get c = h.get c := by rw [Heap.get_set h b c o hb, if_neg e]
theorem w_bset_eq {b : Blk} {i j : Nat} (e : j = i) (v : V) : (b.set i v).get j = v := by rw [Blk.get_set, if_pos e]
theorem w_bset_ne {b : Blk} {i j : Nat} (e : j ≠ i) (v : V) : (b.set i v).get j = b.get j := by rw [Blk.get_set, if_neg e]
theorem w_of_get {l : List V} {i : Nat} (h : i < l.length) : (Blk.of l).get i = l.getD i undefV := Blk.get_of l i h
theorem w_of_size (l : List V) : (Blk.of l).size = l.length := rfl
theorem w_rep_size (n : Nat) (l : List V) : (Blk.rep n l).size = n := rfl
theorem w_getD_zero (a : V) (l : List V) (d : V) : (a :: l).getD 0 d = a := rfl
theorem w_getD_succ (a : V) (l : List V) (i : Nat) (d : V) : (a :: l).getD (i + 1) d = l.getD i d := rfl
theorem w_gets_zero (b : Blk) (o : Nat) : b.gets o 0 = [] := rfl
theorem w_gets_succ (b : Blk) (o n : Nat) : b.gets o (n + 1) = b.get o :: b.gets (o + 1) n := rfl
theorem w_puts_nil (b : Blk) (o : Nat) : b.puts o [] = b := rfl
theorem w_puts_cons (b : Blk) (o : Nat) (v : V) (l : List V) : b.puts o (v :: l) = (b.set o v).puts (o + 1) l := rfl
theorem w_putA_one (b : Blk) (o : Nat) (v : V) : b.putA o [v] = b.set o v := rfl
theorem w_fill_nil (p : Nat → Option (Nat × Nat)) (c : List V) : fillV p c [] = some c := rfl
theorem w_fill_cons (p : Nat → Option (Nat × Nat)) (c : List V) (i : Nat) (v : V) (r : List (Nat × V)) : fillV p c ((i, v) :: r) = match p i with
    | none => none
    | some (off, size) => if v.cellsV.length = size ∧ off + size ≤ c.length then fillV p (putL c off v.cellsV) r else none := by
  cases h : p i with
  | none => simp [fillV, h]
  | some q => obtain ⟨a, b⟩ := q; simp [fillV, h]
theorem w_putL_nil (l : List V) (o : Nat) : putL l o [] = l := rfl
theorem w_putL_cons (l : List V) (o : Nat) (v : V) (r : List V) : putL l o (v :: r) = putL (l.set o v) (o + 1) r := rfl
theorem w_i64 {x : Int} (h1 : -9223372036854775808 ≤ x) (h2 : x ≤ 9223372036854775807) : IntKind.i64.wrap x = x := IntWalk.i64_in x (by omega)
theorem w_one_int (k : IntKind) (n : Int) : (V.int k n).cellsV = [.int k n] := rfl
theorem w_one_ptr (a : Option (Nat × Nat)) : (V.ptr a).cellsV = [.ptr a] := rfl
theorem w_one_bool (b : Bool) : (V.bool b).cellsV = [.bool b] := rfl
theorem w_one_str (b : ByteArray) : (V.str b).cellsV = [.str b] := rfl
theorem w_one_slice (a : Option (Nat × Nat)) (n c : Nat) (ex : Bool) : (V.slice a n c ex).cellsV = [.slice a n c ex] := rfl
theorem w_one_map (a : Option Nat) : (V.map a).cellsV = [.map a] := rfl
theorem w_one_func (f : FuncId) (x y : List V) : (V.func f x y).cellsV = [.func f x y] := rfl
theorem w_one_yield (l : Nat) : (V.yield l).cellsV = [.yield l] := rfl
theorem w_agg (c : List V) : (V.agg c).cellsV = c := rfl
attribute [go_sem] w_of_size w_rep_size Blk.size_set Blk.size_puts Blk.ro_of Blk.ro_rep Blk.ro_set Blk.ro_puts Blk.ro_putA Blk.size_putA w_putA_one w_getD_zero w_getD_succ w_gets_zero w_gets_succ w_puts_nil w_puts_cons w_fill_nil w_fill_cons w_putL_nil w_putL_cons w_one_int w_one_ptr w_one_bool w_one_str w_one_slice w_one_map w_one_func w_one_yield w_agg List.set_cons_zero List.set_cons_succ Int.toNat_natCast Heap.n_push Heap.n_set
end Go.Vm
set_option linter.unusedVariables false
set_option linter.unusedSimpArgs false
namespace Go.Vm
variable {P : Program}

def apT (P : Program) (t u : TypeId) : Option (Nat × Nat × Nat) := match P.underlying t with
  | some (.slice e) => match P.info? e, zeroV P e, srcOk P u with
    | some i, some z, true => match Nat.beq z.cellsV.length i.size with
      | true => some (e, i.size, i.bytes)
      | false => none
    | _, _, _ => none
  | _ => none
def appE (e size bytes : Nat) (s x : V) (h : Heap) : Option Pr := match s, lenOfV x with
  | .slice base sLen sCap ex, some n => match firstV h size n x with
    | some (news, rs) => match Nat.beq news.length (n * size) with
      | true => match Nat.ble (sLen + n) sCap with
        | true => appendIn h base sLen sCap ex size n news rs
        | false => match firstV h size sLen s with
          | some (olds, rs') => match Nat.beq olds.length (sLen * size) with
            | true => match Nat.ble ((sLen + n) * bytes) 140737488355328 with
              | true => match Nat.ble (sLen + n) 9223372036854775807 with
                | true => appendOut h e base sCap ex size (sLen + n) olds news (rs ++ rs')
                | false => none
              | false => none
            | false => none
          | none => none
      | false => none
    | none => none
  | .esl a, some 0 => match firstV h size 0 x with
    | some ([], rs) => some ⟨.esl a, h, rs, []⟩
    | _ => none
  | _, _ => none
theorem appendV_of {t u e size bytes : Nat} (ht : apT P t u = some (e, size, bytes)) (s x : V) (h : Heap) : appendV P t u s x h = appE e size bytes s x h := by
  unfold apT at ht
  unfold appendV appE
  split at ht
  · rename_i e' hu
    rw [hu]
    simp only []
    split at ht
    · rename_i i z h1 h2 h3
      split at ht
      · rename_i hz
        cases ht
        rw [h1, h2]
        simp only []
        cases s <;> try rfl
        case esl a =>
          simp only [appSrcV, h3]
          cases lenOfV x with
          | none => rfl
          | some n =>
            simp only []
            cases n with
            | zero => cases firstV h i.size 0 x with
              | none => rfl
              | some p =>
                obtain ⟨news, rs⟩ := p
                cases news <;> rfl
            | succ n => cases firstV h i.size (n + 1) x with
              | none => rfl
              | some p => rfl
        rename_i base sLen sCap ex
        simp only [appSrcV, h3]
        cases lenOfV x with
        | none => rfl
        | some n =>
          simp only []
          cases firstV h i.size n x with
          | none => rfl
          | some p =>
            obtain ⟨news, rs⟩ := p
            simp only []
            cases Nat.beq news.length (n * i.size) with
            | false => rfl
            | true =>
              simp only []
              cases Nat.ble (sLen + n) sCap with
              | true => rfl
              | false =>
                simp only []
                cases firstV h i.size sLen (.slice base sLen sCap ex) with
                | none => rfl
                | some q =>
                  obtain ⟨olds, rs'⟩ := q
                  simp only [hz]
                  cases Nat.beq olds.length (sLen * i.size) with
                  | false => rfl
                  | true =>
                    cases Nat.ble ((sLen + n) * i.bytes) 140737488355328 with
                    | false => rfl
                    | true => cases Nat.ble (sLen + n) 9223372036854775807 <;> rfl
      · cases ht
    · cases ht
  · cases ht
theorem gets_of (l : List V) : ∀ (k : Nat), k ≤ l.length → ∀ o, o + k = l.length → (Blk.of l).gets o k = l.drop o
  | 0, _, o, h => by
    rw [List.drop_eq_nil_of_le (by omega)]; rfl
  | k + 1, hk, o, h => by
    rw [w_gets_succ, gets_of l k (by omega) (o + 1) (by omega), w_of_get (by omega), List.drop_eq_getElem_cons (i := o) (l := l) (by omega)]
    congr 1
    simp [List.getD, show o < l.length by omega]
theorem gets_all (l : List V) {n : Nat} (h : n = l.length) : (Blk.of l).gets 0 n = l := by subst h; rw [gets_of l _ (Nat.le_refl _) 0 (by omega)]; rfl
theorem append_first {e bytes : Nat} {h : Heap} {xb : Nat} {cx : Blk} {te : TypeId} {v : V} (hx : h.get xb = some (.cells cx te)) (hs : 1 ≤ cx.size) (hv : cx.get 0 = v) (hb : bytes ≤ 140737488355328) :
    appE e 1 bytes (.slice none 0 0 true) (.slice (some (xb, 0)) 1 1 true) h = some ⟨.slice (some (h.n, 0)) 1 1 false, h.push (.cells (Blk.of [v]) e), [xb], []⟩ := by
  unfold appE
  simp only [lenOfV, firstV, hx, w_ble_t (show 0 + 1 * 1 ≤ cx.size by omega), w_gets_succ, w_gets_zero, hv, List.length_cons, List.length_nil]
  simp only [w_beq_t (show 0 + 1 = 1 * 1 from rfl), w_ble_f (show 0 < 0 + 1 by omega), w_beq_t (show 0 = 0 * 1 from rfl), w_ble_t (show (0 + 1) * bytes ≤ 140737488355328 by omega), w_ble_t (show 0 + 1 ≤ 9223372036854775807 by omega)]
  rfl
theorem append_next {e bytes n : Nat} {h : Heap} {xb bj : Nat} {cx : Blk} {te : TypeId} {v : V} {l : List V} (hx : h.get xb = some (.cells cx te)) (hs : 1 ≤ cx.size) (hv : cx.get 0 = v) (hv1 : v.one = true) (hn : n = l.length) (hj : h.get bj = some (.cells (Blk.of l) e)) (hb : (n + 1) * bytes ≤ 140737488355328) (hbig : n + 1 ≤ 9223372036854775807) :
    appE e 1 bytes (.slice (some (bj, 0)) n n false) (.slice (some (xb, 0)) 1 1 true) h = some ⟨.slice (some (h.n, 0)) (n + 1) (n + 1) false, (h.set bj .dead).push (.cells (Blk.of (l ++ [v])) e), [xb] ++ [bj], [bj]⟩ := by
  unfold appE
  simp only [lenOfV, firstV, hx, w_ble_t (show 0 + 1 * 1 ≤ cx.size by omega), w_gets_succ, w_gets_zero, hv, List.length_cons, List.length_nil]
  simp only [w_beq_t (show 0 + 1 = 1 * 1 from rfl), w_ble_f (show n < n + 1 by omega), hj, w_of_size]
  simp only [Nat.zero_add, Nat.mul_one, w_ble_t (show n ≤ l.length by omega), gets_all l hn, w_beq_t (show l.length = n from hn.symm), w_ble_t hb, w_ble_t hbig]
  simp only [appendOut, hj, w_beq_t (rfl : e = e), w_of_size, Nat.zero_add, Nat.mul_one, w_beq_t hn, allOne, hv1, Blk.ro_of]
end Go.Vm
set_option linter.unusedVariables false
set_option linter.unusedSimpArgs false
namespace Go.Vm
variable {P : Program}

inductive VT where
  | bool
  | int (k : IntKind)
  | slice (e : VT)
  | struct (fs : List VT)
  | array (n : Nat) (e : VT)
mutual
def VT.size : VT → Nat
  | .bool => 1
  | .int _ => 1
  | .slice _ => 1
  | .struct fs => VT.sizes fs
  | .array n e => n * e.size
def VT.sizes : List VT → Nat
  | [] => 0
  | t :: r => t.size + VT.sizes r
end
def VSl (h : Heap) (sz : Nat) (Q : List V → Prop) (v : V) : Prop :=
  v = .slice none 0 0 true ∨ (∃ a, v = .esl a) ∨ ∃ b o len cap c ce, v = .slice (some (b, o)) len cap true ∧ len ≤ cap ∧ 0 < cap ∧ cap ≤ 9223372036854775807 ∧ h.get b = some (.cells c ce) ∧ o + cap * sz ≤ c.size ∧ ∀ i, i < cap → Q (c.gets (o + i * sz) sz)
mutual
def VIs (h : Heap) : VT → List V → Prop
  | .bool, cs => ∃ b, cs = [.bool b]
  | .int k, cs => ∃ n, cs = [.int k n] ∧ k.min ≤ n ∧ n ≤ k.max
  | .slice e, cs => ∃ v, cs = [v] ∧ VSl h e.size (VIs h e) v
  | .struct fs, cs => VIss h fs cs
  | .array n e, cs => cs.length = n * e.size ∧ ∀ i, i < n → VIs h e ((cs.drop (i * e.size)).take e.size)
def VIss (h : Heap) : List VT → List V → Prop
  | [], cs => cs = []
  | t :: r, cs => VIs h t (cs.take t.size) ∧ VIss h r (cs.drop t.size)
end
mutual
def vtOk (P : Program) : Nat → TypeId → VT → Bool
  | 0, _, _ => false
  | n + 1, t, vt => match P.underlying t, vt with
    | some .bool, .bool => true
    | some (.int k), .int k' => decide (k = k')
    | some (.slice e), .slice ve => Nat.beq (P.cellsOf e) ve.size && Nat.blt 0 ve.size && vtOk P n e ve
    | some (.struct fs), .struct vs => Nat.beq (P.cellsOf t) (VT.sizes vs) && vtOks P n 0 fs.toList vs
    | some (.array m e), .array m' ve => Nat.beq m m' && Nat.beq (P.cellsOf t) (m * ve.size) && Nat.beq (P.cellsOf e) ve.size && vtOk P n e ve
    | _, _ => false
def vtOks (P : Program) : Nat → Nat → List Field → List VT → Bool
  | 0, _, _, _ => false
  | _ + 1, _, [], [] => true
  | n + 1, off, f :: fs, v :: vs => Nat.beq f.offset off && Nat.beq (P.cellsOf f.type) v.size && vtOk P n f.type v && vtOks P n (off + v.size) fs vs
  | _ + 1, _, _, _ => false
end
section
variable {H : Type} {enc : TypeId × Value → H} {w : World}
end
end Go.Vm
set_option linter.unusedVariables false
set_option linter.unusedSimpArgs false
namespace Go.Vm
variable {P : Program}

def keyI : V → Int
  | .int _ n => n
  | _ => 0
structure IMap (es : Ents) (ck : Nat) : Prop where
  ok : EntsOk es ck
  ints : ∀ e ∈ es, ∃ k : Int, e.1 = .int .i64 k
  keys : (es.map fun e => keyI e.1).Nodup
theorem IMap.nil : IMap [] 0 := ⟨EntsOk.nil, by simp, by simp⟩
end Go.Vm
set_option linter.unusedVariables false
set_option linter.unusedSimpArgs false
namespace Go.Vm
section
variable {P : Program} {tm : Tm} {h : Heap} {K : V → Heap → Set' → Set' → Prop}
end
end Go.Vm
namespace Go.Vm
attribute [go_sem] List.length_cons List.length_nil Nat.one_mod Nat.zero_div List.getElem?_cons_zero List.getElem?_cons_succ List.getElem?_toArray List.getElem?_nil Bool.not_false Bool.not_true beq_self_eq_true Bool.not_eq_true true_and and_true true_or or_true false_or or_false List.append_nil List.nil_append List.cons_append Option.map_some Option.map_none Option.some.injEq decide_true decide_false if_true if_false Bool.false_eq_true gt_iff_lt ge_iff_le Nat.zero_add Nat.add_zero Nat.zero_mul Nat.mul_zero Nat.mul_one Nat.one_mul implies_true w_blt_t w_blt_f w_ble_t w_ble_f w_beq_t w_beq_f w_ilt_t w_ilt_f w_ile_t w_ile_f w_ieq_t w_ieq_f w_idx w_ite w_push_eq w_push_ne w_set_eq w_set_ne w_bset_eq w_bset_ne w_of_get w_i64 Blk.putA_short and_self Nat.add_eq Nat.le_refl Nat.le_add_right
theorem szs : (∀ (h : Heap) (o : O), (h.push o).n = h.n + 1) ∧ (∀ (h : Heap) (b : Nat) (o : O), (h.set b o).n = h.n) ∧ (∀ (b : Blk) (i : Nat) (v : V), (b.set i v).size = b.size) ∧ (∀ (l : List V) (b : Blk) (o : Nat), (b.puts o l).size = b.size) ∧ (∀ (b : Blk) (o : Nat) (l : List V), (b.putA o l).size = b.size) ∧ (∀ l : List V, (Blk.of l).size = l.length) ∧ (∀ (n : Nat) (l : List V), (Blk.rep n l).size = n) ∧
    (∀ (α : Type) (a : α) (l : List α), (a :: l).length = l.length + 1) ∧ ∀ α : Type, ([] : List α).length = 0 :=
  ⟨Heap.n_push, Heap.n_set, Blk.size_set, Blk.size_puts, Blk.size_putA, w_of_size, w_rep_size, fun _ _ _ => List.length_cons, fun _ => List.length_nil⟩
end Go.Vm
set_option linter.unusedVariables false
set_option linter.unusedSimpArgs false
namespace Go.Vm
open Go.Proofs Go.Shelf
variable {P : Program}

theorem Goes.grow {N W : Nat → Prop} {H H' : HF} {σ σ' : Ren} {w w' : World} (g : Goes P N W H H' σ σ' w w') (os : Array Obj) : Goes P N W H H' σ σ' w (Sort.grow w' os) := by
  refine { g with inv := ⟨fun b o hb hd => ?_, g.inv.inj, g.inv.fin⟩, real := fun k hk hne => ?_, size := ?_, os := g.os, tape := g.tape, output := g.output }
  · obtain ⟨l, hl, hr⟩ := g.inv.rel b o hb hd
    refine ⟨l, hl, ?_⟩
    rw [Sort.heap_grow_old _ _ (g.inv.lt ⟨o, hb, hd⟩ hl)]
    exact hr
  · rw [Sort.heap_grow_old _ _ (Nat.lt_of_lt_of_le hk g.size)]; exact g.real k hk hne
  · have := g.size
    have : w'.heap.size ≤ (Sort.grow w' os).heap.size := by simp [Sort.grow]
    omega

def sortI (zs : List Int) : List Int := zs.mergeSort fun x y => decide (x ≤ y)
theorem sortI_length (zs : List Int) : (sortI zs).length = zs.length := List.length_mergeSort _
theorem sort_ok {ρ : Shelf.Ren} (Ly : SlLaysM.n5 P ρ) {h : Heap} {b : Nat} {c : Blk} {e : TypeId} (hb : h.get b = some (.cells c e)) (zs : List Int) (hsz : zs.length ≤ c.size) (hz : ∀ i (hi : i < zs.length), c.get i = .int .i64 zs[i])
    (hro : c.ro = false) (hbig : zs.length < 4611686018427387904) (cap : Nat) (ex : Bool) :
    SF (P : MP) (ρ.f 5) [.slice (some (b, 0)) zs.length cap ex] h (fun x => x = b) (fun x => x = b) fun v h' => v = undefV ∧ h' = h.set b (.cells (c.puts 0 ((sortI zs).map (.int .i64))) e) := by
  have hbn := Heap.lt_of_get hb
  refine ⟨undefV, _, ⟨rfl, rfl⟩, vf_set hbn _ rfl, fun H σ w p hon => ?_⟩
  have hH : H b = some (.cells c e) := by rw [p.agree b hbn (.inl rfl), hb]
  obtain ⟨l, arr, fz, hfz, hl, ha, hsa, hcc⟩ := cells_rel p.inv hH
  have hfz := hfz hro
  have hlt : l.blk < w.heap.size := (Array.getElem?_eq_some_iff.1 ha).1
  have holds : Sort.Holds (Value.int .i64) w l.blk l.sh zs.toArray := by
    intro j hj
    have hj' : j < zs.length := by simpa using hj
    have h1 := (hcc j (by omega)).2
    rw [hz j hj'] at h1
    refine ⟨?_, by
      simp only [World.frozen?, ha]
      rcases hfz with rfl | hfz
      · simp
      · have : ¬ (fz.1 ≤ l.sh + j) := by omega
        simp [this]⟩
    simp only [World.cell?, ha]
    simp [h1, V.re, hj']
  have hc := AnyM.slices_Sort_int Ly l.blk l.sh (if ex then cap else cap + σ.k b) zs w holds hlt hbig
  have ea : (V.reL σ [.slice (some (b, 0)) zs.length cap ex]).toArray = #[.slice (some ⟨l.blk, l.sh, none⟩) zs.length (if ex then cap else cap + σ.k b)] := by
    simp [V.reL, V.re, reA, Ren.b_eq hl, Ren.s_eq hl]
  rw [ea]
  refine CallsIn.mono ((callsIn_wide (n := 0)).2 hc) ?_
  rintro e' w' ⟨rfl, n, os, rfl⟩
  have hw1 : (Sort.putRow (Value.int .i64) (Sort.ahead w n) l.blk l.sh (sortI zs).toArray).heap[l.blk]? = some (.cells (Sort.putCells (Value.int .i64) l.sh (sortI zs).toArray arr) e fz) := by
    simp [Sort.putRow, Sort.mapBlock, Sort.ahead, Array.getElem?_modify, ha, Sort.onCells]
  have hoth : ∀ k, k ≠ l.blk → (Sort.putRow (Value.int .i64) (Sort.ahead w n) l.blk l.sh (sortI zs).toArray).heap[k]? = w.heap[k]? := fun k hk => by
    simp [Sort.putRow, Sort.mapBlock, Sort.ahead, Array.getElem?_modify, Ne.symm hk]
  have hst := step_set (w' := Sort.putRow (Value.int .i64) (Sort.ahead w n) l.blk l.sh (sortI zs).toArray) (o := .cells (c.puts 0 ((sortI zs).map (.int .i64))) e) p hb rfl rfl hl (by simp [Sort.putRow, Sort.mapBlock, Sort.ahead]) hoth rfl rfl rfl (by
    rw [hw1]
    refine ⟨_, ⟨fz, fun _ => hfz.of_size (by simp [Sort.putCells]), rfl⟩, by simp [Sort.putCells, Blk.size_puts, hsa], fun i hi => ?_⟩
    rw [Blk.size_puts] at hi
    have hci := hcc i hi
    rw [Blk.get_puts]
    simp only [Nat.zero_le, true_and, Nat.zero_add, List.length_map, sortI_length, Nat.sub_zero]
    by_cases hiz : i < zs.length
    · rw [if_pos hiz]
      have hg : ((sortI zs).map (V.int .i64)).getD i undefV = .int .i64 ((sortI zs).getD i 0) := by
        have : i < (sortI zs).length := by rw [sortI_length]; exact hiz
        simp [List.getD, this]
      rw [hg]
      refine ⟨trivial, ?_⟩
      have hsi : i < (sortI zs).length := by rw [sortI_length]; exact hiz
      simp only [Sort.putCells, Array.getElem?_mapIdx, hci.2, Option.map_some]
      rw [if_pos (by simp [sortI_length]; omega)]
      simp [V.re, List.getD, hsi, show l.sh + i - l.sh = i by omega]
    · rw [if_neg hiz]
      refine ⟨hci.1, ?_⟩
      simp only [Sort.putCells, Array.getElem?_mapIdx, hci.2, Option.map_some]
      rw [if_neg (by simp [sortI_length]; omega)])
  exact ⟨_, σ, _, rfl, ⟨undefV_on _, by simp [undefV, V.re, V.reL]⟩, ⟨hst.goes.grow os, hst.get⟩⟩
end Go.Vm
