/- Code without what a walk does not look at: guards resolved, positions and edges struck. -/
import Derived.Test.YtmkdbninmimndaaVmU
set_option linter.unusedVariables false
set_option linter.unusedSimpArgs false
namespace Go.Vm
variable {P : Program} {M : MP}

structure LO where
  dst : Option Tmp
  op : Op
  grd : Option (Tmp × Bool)
inductive LC where
  | skip
  | ops (l : List LO)
  | draw (l : List LO) (ps : List (Nat × Nat))
  | seq (a b : LC)
  | cond (c : Operand) (a b : LC)
  | block (id : Nat) (c : LC)
  | loop (c : LC)
  | exit (id : Nat)
  | ret
  | range (g : Operand) (ps : Array Tmp) (assign body : Code)
  | bad

def lowGrd (ops : List Oper) (g : Option (Nat × Bool)) : Option (Option (Tmp × Bool)) := match g with
  | none => some none
  | some (j, want) => match ops[j]? with
    | some o => match o.dst with
      | some t => some (some (t, want))
      | none => none
    | none => none
def lowOps (ops : List Oper) : List Oper → Option (List LO)
  | [] => some []
  | o :: r => match lowGrd ops o.guard with
    | some g => match lowOps ops r with
      | some l => some (⟨o.dst, o.op, g⟩ :: l)
      | none => none
    | none => none
def low : Code → LC
  | .skip => .skip
  | .label _ => .skip
  | .region _ ops draw => match lowOps ops.toList ops.toList with
    | some l => match draw with
      | false => .ops l
      | true => match staticOk ops.toList with
        | true => .draw l (openPairs ops.toList)
        | false => .bad
    | none => .bad
  | .seq a b => .seq (low a) (low b)
  | .cond c a b => .cond c (low a) (low b)
  | .block id c => .block id (low c)
  | .loop c => .loop (low c)
  | .exit id => .exit id
  | .ret => .ret
  | .scope c => low c
  | .rangeFunc g ps assign body => .range g ps assign body
  | _ => .bad

/-! ### what is to be shown -/
def bare (op : Op) : Oper := ⟨none, op, 0, "", #[], none⟩
def LOp (M : MP) (R W : Set') (tm : Tm) (h : Heap) (op : Op) (K : V → Heap → Prop) : Prop := SOp M R W tm h (bare op) K
def LOpD (P : Program) (tm : Tm) (h : Heap) (op : Op) (K : V → Heap → Set' → Set' → Prop) : Prop := SOpD P tm h (bare op) K
theorem LOp_eq {R W : Set'} {tm : Tm} {h : Heap} {o : Oper} {K : V → Heap → Prop} : SOp M R W tm h o K = LOp M R W tm h o.op K := by cases o; rfl
theorem LOpD_eq {tm : Tm} {h : Heap} {o : Oper} {K : V → Heap → Set' → Set' → Prop} : SOpD P tm h o K = LOpD P tm h o.op K := by cases o; rfl
def wantL (tm : Tm) (g : Option (Tmp × Bool)) : Option Bool := match g with
  | none => some true
  | some (t, want) => match tm.get t with
    | some (.bool b) => some (b == want)
    | some (.raw _) => none
    | some _ => some false
    | none => none
theorem wantL_eq {ops : List Oper} {o : Oper} {g : Option (Tmp × Bool)} (hg : lowGrd ops o.guard = some g) (tm : Tm) : wantV ops tm o = wantL tm g := by
  unfold lowGrd at hg
  unfold wantV wantL
  split at hg
  · rename_i e; cases hg; rw [e]
  · rename_i j want e
    rw [e]
    split at hg
    · rename_i q hq
      split at hg
      · rename_i t ht
        cases hg
        simp only [hq, ht]
        rfl
      · cases hg
    · cases hg

def LOps (M : MP) (R W : Set') : List LO → Tm → Heap → (Tm → Heap → Prop) → Prop
  | [], tm, h, K => K tm h
  | o :: l, tm, h, K => match wantL tm o.grd with
    | some true => LOp M R W tm h o.op fun v h' => LOps M R W l (tm.put o.dst v) h' K
    | some false => LOps M R W l (tm.put o.dst undefV) h K
    | none => False
def LRows (P : Program) : List LO → Tm → Heap → List RowP → (Tm → Heap → List RowP → Prop) → Prop
  | [], tm, h, rows, K => K tm h rows
  | o :: l, tm, h, rows, K => match wantL tm o.grd with
    | some true => LOpD P tm h o.op fun v h' R W => LRows P l (tm.put o.dst v) h' (rows ++ [⟨R, W, h.n, h'.n⟩]) K
    | some false => LRows P l (tm.put o.dst undefV) h (rows ++ [⟨fun _ => False, fun _ => False, h.n, h.n⟩]) K
    | none => False
def LDraw (P : Program) (R W : Set') (l : List LO) (ps : List (Nat × Nat)) (tm : Tm) (h : Heap) (K : Tm → Heap → Prop) : Prop :=
  LRows P l tm h [] fun tm' h' rows => pairsP rows ps ∧ footP R W h.n rows ∧ K tm' h'
def LL (M : MP) (R W : Set') (rd : Option Nat) (c : LC) (f : Fr) (h : Heap) (Q : Ex → Fr → Heap → Prop) : Prop := ∃ c', low c' = c ∧ SL M R W rd c' f h Q
def LS (M : MP) (R W : Set') (rd : Option Nat) : LC → Fr → Heap → (Ex → Fr → Heap → Prop) → Prop
  | .skip, f, h, Q => Q .norm f h
  | .ops l, f, h, Q => LOps M R W l f.tm h fun tm h' => Q .norm ⟨tm, f.mks⟩ h'
  | .draw l ps, f, h, Q => LDraw M.P R W l ps f.tm h fun tm h' => Q .norm ⟨tm, f.mks⟩ h'
  | .seq a b, f, h, Q => LS M R W rd a f h fun e f' h' => match e with
    | .norm => LS M R W rd b f' h' Q
    | .exit id => Q (.exit id) f' h'
    | .ret => Q .ret f' h'
  | .cond c a b, f, h, Q => match evV f.tm c with
    | some (.bool t) => match t with
      | true => LS M R W rd a f h Q
      | false => LS M R W rd b f h Q
    | _ => False
  | .block id c, f, h, Q => LS M R W rd c f h fun e f' h' => match e with
    | .norm => Q .norm f' h'
    | .exit id' => match Nat.beq id' id with
      | true => Q .norm f' h'
      | false => Q (.exit id') f' h'
    | .ret => Q .ret f' h'
  | .loop c, f, h, Q => ∀ c', low c' = c → SL M R W rd c' f h Q
  | .exit id, f, h, Q => Q (.exit id) f h
  | .ret, f, h, Q => Q .ret f h
  | .range g ps assign body, f, h, Q => SRange M R W rd g ps assign body f h Q
  | .bad, _, _, _ => False

theorem lowOps_S {R W : Set'} {ops : List Oper} {K : Tm → Heap → Prop} : ∀ (r : List Oper) (l : List LO) (tm : Tm) (h : Heap), lowOps ops r = some l → LOps M R W l tm h K → SOps M R W ops r tm h K
  | [], l, tm, h, hl, hs => by cases hl; exact hs
  | o :: r, l, tm, h, hl, hs => by
    unfold lowOps at hl
    split at hl
    · rename_i g hg
      split at hl
      · rename_i l' hl'
        cases hl
        simp only [LOps] at hs
        simp only [SOps, wantL_eq hg]
        split at hs
        · rename_i hw
          simp only [hw]
          rw [LOp_eq]
          exact LOp_mono hs fun v h' hk => lowOps_S r l' _ _ hl' hk
        · rename_i hw
          simp only [hw]
          exact lowOps_S r l' _ _ hl' hs
        · exact hs.elim
      · cases hl
    · cases hl
where
  LOp_mono {R W : Set'} {tm : Tm} {h : Heap} {op : Op} {K K' : V → Heap → Prop} (hs : LOp M R W tm h op K) (hk : ∀ v h', K v h' → K' v h') : LOp M R W tm h op K' := by
    exact SOp.mono hs hk
theorem lowRows_S {ops : List Oper} {K : Tm → Heap → List RowP → Prop} : ∀ (r : List Oper) (l : List LO) (tm : Tm) (h : Heap) (rows : List RowP), lowOps ops r = some l → LRows P l tm h rows K → SRows P ops r tm h rows K
  | [], l, tm, h, rows, hl, hs => by cases hl; exact hs
  | o :: r, l, tm, h, rows, hl, hs => by
    unfold lowOps at hl
    split at hl
    · rename_i g hg
      split at hl
      · rename_i l' hl'
        cases hl
        simp only [LRows] at hs
        simp only [SRows, wantL_eq hg]
        split at hs
        · rename_i hw
          simp only [hw]
          rw [LOpD_eq]
          exact LOpD_mono hs fun v h' R W hk => lowRows_S r l' _ _ _ hl' hk
        · rename_i hw
          simp only [hw]
          exact lowRows_S r l' _ _ _ hl' hs
        · exact hs.elim
      · cases hl
    · cases hl
where
  LOpD_mono {tm : Tm} {h : Heap} {op : Op} {K K' : V → Heap → Set' → Set' → Prop} (hs : LOpD P tm h op K) (hk : ∀ v h' R W, K v h' R W → K' v h' R W) : LOpD P tm h op K' := by
    unfold LOpD SOpD at *
    split at hs
    · split at hs
      · split at hs
        · obtain ⟨hc, R, W, hs⟩ := hs
          exact ⟨hc, R, W, hs.mono fun v h' => hk v h' R W⟩
        · exact hs.elim
      · exact hs.elim
    · split at hs
      · split at hs
        · split at hs
          · obtain ⟨hc, R, W, hs⟩ := hs
            exact ⟨hc, R, W, hs.mono fun v h' => hk v h' R W⟩
          · exact hs.elim
        · exact hs.elim
      · exact hs.elim
    · split at hs
      · exact hk _ _ _ _ hs
      · exact hs.elim

theorem LS_S {R W : Set'} {rd : Option Nat} : ∀ (c : Code) (f : Fr) (h : Heap) (Q Q' : Ex → Fr → Heap → Prop), (∀ e f h, Q e f h → Q' e f h) → LS M R W rd (low c) f h Q → SC M R W rd c f h Q' := by
  intro c
  induction c with
  | skip => exact fun f h Q Q' hq hs => hq _ _ _ hs
  | label l => exact fun f h Q Q' hq hs => hq _ _ _ hs
  | exit id => exact fun f h Q Q' hq hs => hq _ _ _ hs
  | ret => exact fun f h Q Q' hq hs => hq _ _ _ hs
  | goto l => exact fun f h Q Q' hq hs => hs.elim
  | refuse why => exact fun f h Q Q' hq hs => hs.elim
  | region id ops draw =>
    intro f h Q Q' hq hs
    simp only [low] at hs
    split at hs
    · rename_i l hl
      split at hs
      · exact SOps_mono (lowOps_S _ _ _ _ hl hs) fun tm h' => hq _ _ _
      · split at hs
        · rename_i hst
          refine ⟨hst, lowRows_S _ _ _ _ _ hl ?_⟩
          exact LRows_mono hs fun tm h' rows ⟨h1, h2, h3⟩ => ⟨h1, h2, hq _ _ _ h3⟩
        · exact hs.elim
    · exact hs.elim
  | seq x y ihx ihy =>
    intro f h Q Q' hq hs
    refine ihx f h _ _ ?_ hs
    intro e f' h' hk
    cases e with
    | norm => exact ihy f' h' Q Q' hq hk
    | exit id => exact hq _ _ _ hk
    | ret => exact hq _ _ _ hk
  | cond c x y ihx ihy =>
    intro f h Q Q' hq hs
    simp only [low, LS] at hs
    simp only [SC]
    split at hs
    · rename_i t hc
      split at hs
      · simp only [hc]; exact ihx f h Q Q' hq hs
      · simp only [hc]; exact ihy f h Q Q' hq hs
    · exact hs.elim
  | block id x ih =>
    intro f h Q Q' hq hs
    refine ih f h _ _ ?_ hs
    intro e f' h' hk
    cases e with
    | norm => exact hq _ _ _ hk
    | ret => exact hq _ _ _ hk
    | exit id' =>
      simp only at hk ⊢
      split at hk
      · rename_i hb; rw [hb]; exact hq _ _ _ hk
      · rename_i hb; rw [hb]; exact hq _ _ _ hk
  | loop x ih =>
    intro f h Q Q' hq hs
    exact SL.mono (hs x rfl) hq
  | scope x ih => exact fun f h Q Q' hq hs => ih f h Q Q' hq hs
  | rangeFunc g ps assign body _ _ =>
    intro f h Q Q' hq hs
    exact SRange_mono hs hq
where
  SOps_mono {R W : Set'} {ops : List Oper} {K K' : Tm → Heap → Prop} : ∀ {l : List Oper} {tm : Tm} {h : Heap}, SOps M R W ops l tm h K → (∀ tm h, K tm h → K' tm h) → SOps M R W ops l tm h K'
    | [], tm, h, hs, hk => hk _ _ hs
    | o :: l, tm, h, hs, hk => by
      unfold SOps at hs ⊢
      cases hw : wantV ops tm o with
      | none => rw [hw] at hs; exact hs.elim
      | some t =>
        rw [hw] at hs
        cases t with
        | true =>
          change SOp M R W tm h o _ at hs
          show SOp M R W tm h o _
          rw [LOp_eq] at hs ⊢
          exact lowOps_S.LOp_mono hs fun v h' h1 => SOps_mono h1 hk
        | false => exact SOps_mono (l := l) hs hk
  LRows_mono {K K' : Tm → Heap → List RowP → Prop} : ∀ {l : List LO} {tm : Tm} {h : Heap} {rows : List RowP}, LRows M.P l tm h rows K → (∀ tm h rows, K tm h rows → K' tm h rows) → LRows M.P l tm h rows K'
    | [], tm, h, rows, hs, hk => hk _ _ _ hs
    | o :: l, tm, h, rows, hs, hk => by
      unfold LRows at hs ⊢
      cases hw : wantL tm o.grd with
      | none => rw [hw] at hs; exact hs.elim
      | some t =>
        rw [hw] at hs
        cases t with
        | true => exact lowRows_S.LOpD_mono (K := fun v h' R W => LRows M.P l (tm.put o.dst v) h' (rows ++ [⟨R, W, h.n, h'.n⟩]) K) hs fun v h' R W h1 => LRows_mono h1 hk
        | false => exact LRows_mono (l := l) hs hk
  SEnd_mono {W : Set'} {L : Nat} {f : Fr} {h : Heap} {Q Q' : Ex → Fr → Heap → Prop} (hs : SEnd W L f h Q) (hq : ∀ e f h, Q e f h → Q' e f h) : SEnd W L f h Q' := by
    unfold SEnd at *
    split at hs
    · obtain ⟨h1, h2, h3⟩ := hs
      refine ⟨h1, h2, ?_⟩
      split at h3
      · exact hq _ _ _ h3
      · exact hq _ _ _ h3
      · exact hq _ _ _ h3
      · exact h3.elim
    · exact hs.elim
  SRange_mono {R W : Set'} {rd : Option Nat} {g : Operand} {ps : Array Tmp} {assign body : Code} {f : Fr} {h : Heap} {Q Q' : Ex → Fr → Heap → Prop} (hs : SRange M R W rd g ps assign body f h Q) (hq : ∀ e f h, Q e f h → Q' e f h) : SRange M R W rd g ps assign body f h Q' := by
    unfold SRange at *
    split at hs
    · refine ⟨hs.1, ?_⟩
      have hs := hs.2
      split at hs
      · exact hs.mono fun v h2 he => SEnd_mono he hq
      · split at hs
        · exact ⟨hs.1, hs.2.mono fun v h2 he => SEnd_mono he hq⟩
        · exact hs.elim
    · exact hs.elim

/-- A function, by its code struck bare. -/
theorem SF.low (hm : M.P.follows .mixedOrders = true) {f : FuncId} {fn : Func} {args : List V} {h : Heap} {R W : Set'} {Q : V → Heap → Prop} {ir : LC} {n : Nat} {rs : List ResultVar} (hf : M.P.funcs[f]? = some fn)
    (hir : (fn.body.map Vm.low, fn.ntmps, fn.results.toList) = (some ir, n, rs))
    (hs : LS M (fun b => h.n ≤ b ∨ R b) (fun b => h.n ≤ b ∨ W b) none ir ⟨initTm n args, []⟩ h fun e f' h' => match e with
      | .exit _ => False
      | _ => takeH (fun b => h.n ≤ b ∨ W b) f'.mks h' fun h2 => match evRes M.P f'.tm h2 rs with
        | some (vs, rr) => allB (fun b => h.n ≤ b ∨ R b) rr ∧ Q (retV vs) h2
        | none => False) : SF M f args h R W Q := by
  obtain ⟨h1, h2, h3⟩ := (by simpa using hir : fn.body.map Vm.low = some ir ∧ fn.ntmps = n ∧ fn.results.toList = rs)
  cases hb : fn.body with
  | none => simp [hb] at h1
  | some c =>
    simp [hb] at h1
    subst h1 h2 h3
    refine SF.of hm hf hb (LS_S c _ _ _ _ ?_ hs)
    intro e f' h' hk
    cases e with
    | norm => exact hk
    | ret => exact hk
    | exit id => exact hk
/-- A loop, by its code struck bare. -/
theorem SL.low (hm : M.P.follows .mixedOrders = true) {R W : Set'} {rd : Option Nat} {c' : Code} {c : LC} (hc : Vm.low c' = c) {Q : Ex → Fr → Heap → Prop} (I : Nat → Fr → Heap → Prop)
    (hI : ∀ k f h, I k f h → LS M R W rd c f h (Ex.next (fun f' h' => ∃ k', k' < k ∧ I k' f' h') Q)) (k : Nat) (f : Fr) (h : Heap) (h0 : I k f h) : SL M R W rd c' f h Q := by
  subst hc
  exact SL.inv hm I (fun k f h hi => LS_S c' f h _ _ (fun _ _ _ h => h) (hI k f h hi)) k f h h0

end Go.Vm
