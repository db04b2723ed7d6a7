/- Code without what a walk does not look at: guards resolved, positions and edges struck. -/
import Derived.Test.YtakgjjbmniilhaaV3
import Derived.IntWalk
import Derived.Test.YtakgjjbmniilhaaV2
import Derived.Shelf.SortM.Plain
import Derived.Sort.OwnSortedInts
set_option linter.unusedVariables false
set_option linter.unusedVariables false
namespace Go.Vm
variable {P : Program} {M : MP}

structure LO where
 dst : Option Tmp
 op : Op
 grd : Option (Tmp × Bool)
inductive LC where
 | skip
 | ops (l : List LO)
 | draw (l : List LO) (ps : List (Nat × Nat))
 | seq (a b : LC)
 | cond (c : Operand) (a b : LC)
 | block (id : Nat) (c : LC)
 | loop (c : LC)
 | exit (id : Nat)
 | ret
 | range (g : Operand) (ps : Array Tmp) (assign body : Code)
 | bad

def lowGrd (ops : List Oper) (g : Option (Nat × Bool)) : Option (Option (Tmp × Bool)) := match g with
 | none => some none
 | some (j, want) => match ops[j]? with
  | some o => match o.dst with
   | some t => some (some (t, want))
   | none => none
  | none => none
def lowOps (ops : List Oper) : List Oper → Option (List LO)
 | [] => some []
 | o :: r => match lowGrd ops o.guard with
  | some g => match lowOps ops r with
   | some l => some (⟨o.dst, o.op, g⟩ :: l)
   | none => none
  | none => none
def low : Code → LC
 | .skip => .skip
 | .label _ => .skip
 | .region _ ops draw => match lowOps ops.toList ops.toList with
  | some l => match draw with
   | false => .ops l
   | true => match staticOk ops.toList with
    | true => .draw l (jJ ops.toList)
    | false => .bad
  | none => .bad
 | .seq a b => .seq (low a) (low b)
 | .cond c a b => .cond c (low a) (low b)
 | .block id c => .block id (low c)
 | .loop c => .loop (low c)
 | .exit id => .exit id
 | .ret => .ret
 | .scope c => low c
 | .rangeFunc g ps assign body => .range g ps assign body
 | _ => .bad

def bare (op : Op) : Oper := ⟨none, op, 0, "", #[], none⟩
def LOp (M : MP) (R W : Set') (tm : Tm) (h : Heap) (op : Op) (K : V → Heap → Prop) : Prop := SOp M R W tm h (bare op) K
def qV (P : Program) (tm : Tm) (h : Heap) (op : Op) (K : V → Heap → Set' → Set' → Prop) : Prop := zV P tm h (bare op) K
theorem LOp_eq {R W : Set'} {tm : Tm} {h : Heap} {o : Oper} {K : V → Heap → Prop} : SOp M R W tm h o K = LOp M R W tm h o.op K := by cases o; rfl
theorem LOpD_eq {tm : Tm} {h : Heap} {o : Oper} {K : V → Heap → Set' → Set' → Prop} : zV P tm h o K = qV P tm h o.op K := by cases o; rfl
def wantL (tm : Tm) (g : Option (Tmp × Bool)) : Option Bool := match g with
 | none => some true
 | some (t, want) => match tm.get t with
  | some (.bool b) => some (b == want)
  | some (.raw _) => none
  | some _ => some false
  | none => none
theorem wantL_eq {ops : List Oper} {o : Oper} {g : Option (Tmp × Bool)} (hg : lowGrd ops o.guard = some g) (tm : Tm) : wantV ops tm o = wantL tm g := by
 unfold lowGrd at hg
 unfold wantV wantL
 split at hg
 ·rename_i e; cases hg; rw [e]
 ·rename_i j want e
  rw [e]
  split at hg
  ·rename_i q hq
   split at hg
   ·rename_i t ht
    cases hg
    simp only [hq, ht]
    rfl
   ·cases hg
  ·cases hg

def LOps (M : MP) (R W : Set') : List LO → Tm → Heap → (Tm → Heap → Prop) → Prop
 | [], tm, h, K => K tm h
 | o :: l, tm, h, K => match wantL tm o.grd with
  | some true => LOp M R W tm h o.op fun v h' => LOps M R W l (tm.put o.dst v) h' K
  | some false => LOps M R W l (tm.put o.dst qE) h K
  | none => False
def LDem (M : MP) (Rt Wt : Set') (ps : List (Nat × Nat)) (n : Nat) (rows : List RowP) (tm : Tm) (h : Heap) (op : Op) (K : V → Heap → Set' → Set' → Prop) : Prop := SDem M Rt Wt ps n rows tm h (bare op) K
def LRows (M : MP) (Rt Wt : Set') (ps : List (Nat × Nat)) (n : Nat) : List LO → Tm → Heap → List RowP → (Tm → Heap → List RowP → Prop) → Prop
 | [], tm, h, rows, K => K tm h rows
 | o :: l, tm, h, rows, K => match wantL tm o.grd with
  | some true => match isCall o.op with
   | false => qV M.P tm h o.op fun v h' R W => LRows M Rt Wt ps n l (tm.put o.dst v) h' (rows ++ [⟨R, W, h.n, h'.n⟩]) K
   | true => qV M.P tm h o.op (fun v h' R W => LRows M Rt Wt ps n l (tm.put o.dst v) h' (rows ++ [⟨R, W, h.n, h'.n⟩]) K) ∨ LDem M Rt Wt ps n rows tm h o.op fun v h' R W => LRows M Rt Wt ps n l (tm.put o.dst v) h' (rows ++ [⟨R, W, h.n, h'.n⟩]) K
  | some false => LRows M Rt Wt ps n l (tm.put o.dst qE) h (rows ++ [⟨fun _ => False, fun _ => False, h.n, h.n⟩]) K
  | none => False
def LDraw (M : MP) (R W : Set') (l : List LO) (ps : List (Nat × Nat)) (tm : Tm) (h : Heap) (K : Tm → Heap → Prop) : Prop :=
 LRows M R W ps h.n l tm h [] fun tm' h' rows => yN rows ps ∧ footP R W h.n rows ∧ K tm' h'
def LS (M : MP) (R W : Set') (rd : Option Nat) : LC → Fr → Heap → (Ex → Fr → Heap → Prop) → Prop
 | .skip, f, h, Q => Q .norm f h
 | .ops l, f, h, Q => LOps M R W l f.tm h fun tm h' => Q .norm ⟨tm, f.mks⟩ h'
 | .draw l ps, f, h, Q => LDraw M R W l ps f.tm h fun tm h' => Q .norm ⟨tm, f.mks⟩ h'
 | .seq a b, f, h, Q => LS M R W rd a f h fun e f' h' => match e with
  | .norm => LS M R W rd b f' h' Q
  | .exit id => Q (.exit id) f' h'
  | .ret => Q .ret f' h'
 | .cond c a b, f, h, Q => match evV f.tm c with
  | some (.bool t) => match t with
   | true => LS M R W rd a f h Q
   | false => LS M R W rd b f h Q
  | _ => False
 | .block id c, f, h, Q => LS M R W rd c f h fun e f' h' => match e with
  | .norm => Q .norm f' h'
  | .exit id' => match Nat.beq id' id with
   | true => Q .norm f' h'
   | false => Q (.exit id') f' h'
  | .ret => Q .ret f' h'
 | .loop c, f, h, Q => ∀ c', low c' = c → SL M R W rd c' f h Q
 | .exit id, f, h, Q => Q (.exit id) f h
 | .ret, f, h, Q => Q .ret f h
 | .range g ps assign body, f, h, Q => xZ M R W rd g ps assign body f h Q
 | .bad, _, _, _ => False

theorem lowOps_S {R W : Set'} {ops : List Oper} {K : Tm → Heap → Prop} : ∀ (r : List Oper) (l : List LO) (tm : Tm) (h : Heap), lowOps ops r = some l → LOps M R W l tm h K → SOps M R W ops r tm h K
 | [], l, tm, h, hl, hs => by cases hl; exact hs
 | o :: r, l, tm, h, hl, hs => by
  unfold lowOps at hl
  split at hl
  ·rename_i g hg
   split at hl
   ·rename_i l' hl'
    cases hl
    simp only [LOps] at hs
    simp only [SOps, wantL_eq hg]
    split at hs
    ·rename_i hw
     simp only [hw]
     rw [LOp_eq]
     exact LOp_mono hs fun v h' hk => lowOps_S r l' _ _ hl' hk
    ·rename_i hw
     simp only [hw]
     exact lowOps_S r l' _ _ hl' hs
    ·exact hs.elim
   ·cases hl
  ·cases hl
where
 LOp_mono {R W : Set'} {tm : Tm} {h : Heap} {op : Op} {K K' : V → Heap → Prop} (hs : LOp M R W tm h op K) (hk : ∀ v h', K v h' → K' v h') : LOp M R W tm h op K' := by
  exact SOp.mono hs hk
theorem yZ {Rt Wt : Set'} {ps : List (Nat × Nat)} {n : Nat} {ops : List Oper} {K : Tm → Heap → List RowP → Prop} : ∀ (r : List Oper) (l : List LO) (tm : Tm) (h : Heap) (rows : List RowP), lowOps ops r = some l → LRows M Rt Wt ps n l tm h rows K → SRows M Rt Wt ps n ops r tm h rows K
 | [], l, tm, h, rows, hl, hs => by cases hl; exact hs
 | o :: r, l, tm, h, rows, hl, hs => by
  unfold lowOps at hl
  split at hl
  ·rename_i g hg
   split at hl
   ·rename_i l' hl'
    cases hl
    simp only [LRows] at hs
    simp only [SRows, wantL_eq hg]
    split at hs
    ·rename_i hw
     simp only [hw]
     cases hc : isCall o.op with
     | false =>
      rw [hc] at hs
      simp only [] at hs ⊢
      rw [LOpD_eq]
      exact LOpD_mono hs fun v h' R W hk => yZ r l' _ _ _ hl' hk
     | true =>
      rw [hc] at hs
      simp only [] at hs ⊢
      rw [LOpD_eq]
      refine hs.imp (fun hs => LOpD_mono hs fun v h' R W hk => yZ r l' _ _ _ hl' hk) fun hs => ?_
      have := LDem_mono hs fun v h' R W hk => yZ r l' _ _ _ hl' hk
      cases o; exact this
    ·rename_i hw
     simp only [hw]
     exact yZ r l' _ _ _ hl' hs
    ·exact hs.elim
   ·cases hl
  ·cases hl
where
 LDem_mono {Rt Wt : Set'} {ps : List (Nat × Nat)} {n : Nat} {rows : List RowP} {tm : Tm} {h : Heap} {op : Op} {K K' : V → Heap → Set' → Set' → Prop} (hs : LDem M Rt Wt ps n rows tm h op K) (hk : ∀ v h' R W, K v h' R W → K' v h' R W) : LDem M Rt Wt ps n rows tm h op K' := by
  obtain ⟨h1, h2, R, W, h3, h4, h5⟩ := hs
  exact ⟨h1, h2, R, W, h3, h4, SOp.mono h5 fun v h' => hk v h' R W⟩
 LOpD_mono {P : Program} {tm : Tm} {h : Heap} {op : Op} {K K' : V → Heap → Set' → Set' → Prop} (hs : qV P tm h op K) (hk : ∀ v h' R W, K v h' R W → K' v h' R W) : qV P tm h op K' := by
  unfold qV zV at *
  split at hs
  ·split at hs
   ·split at hs
    ·obtain ⟨hc, R, W, hs⟩ := hs
     exact ⟨hc, R, W, hs.mono fun v h' => hk v h' R W⟩
    ·exact hs.elim
   ·exact hs.elim
  ·split at hs
   ·split at hs
    ·split at hs
     ·obtain ⟨hc, R, W, hs⟩ := hs
      exact ⟨hc, R, W, hs.mono fun v h' => hk v h' R W⟩
     ·exact hs.elim
    ·exact hs.elim
   ·exact hs.elim
  ·split at hs
   ·exact hk _ _ _ _ hs
   ·exact hs.elim

theorem LS_S {R W : Set'} {rd : Option Nat} : ∀ (c : Code) (f : Fr) (h : Heap) (Q Q' : Ex → Fr → Heap → Prop), (∀ e f h, Q e f h → Q' e f h) → LS M R W rd (low c) f h Q → SC M R W rd c f h Q' := by
 intro c
 induction c with
 | skip => exact fun f h Q Q' hq hs => hq _ _ _ hs
 | label l => exact fun f h Q Q' hq hs => hq _ _ _ hs
 | exit id => exact fun f h Q Q' hq hs => hq _ _ _ hs
 | ret => exact fun f h Q Q' hq hs => hq _ _ _ hs
 | goto l => exact fun f h Q Q' hq hs => hs.elim
 | refuse why => exact fun f h Q Q' hq hs => hs.elim
 | region id ops draw =>
  intro f h Q Q' hq hs
  simp only [low] at hs
  split at hs
  ·rename_i l hl
   split at hs
   ·exact SOps_mono (lowOps_S _ _ _ _ hl hs) fun tm h' => hq _ _ _
   ·split at hs
    ·rename_i hst
     refine ⟨hst, yZ _ _ _ _ _ hl ?_⟩
     exact LRows_mono hs fun tm h' rows ⟨h1, h2, h3⟩ => ⟨h1, h2, hq _ _ _ h3⟩
    ·exact hs.elim
  ·exact hs.elim
 | seq x y ihx ihy =>
  intro f h Q Q' hq hs
  refine ihx f h _ _ ?_ hs
  intro e f' h' hk
  cases e with
  | norm => exact ihy f' h' Q Q' hq hk
  | exit id => exact hq _ _ _ hk
  | ret => exact hq _ _ _ hk
 | cond c x y ihx ihy =>
  intro f h Q Q' hq hs
  simp only [low, LS] at hs
  simp only [SC]
  split at hs
  ·rename_i t hc
   split at hs
   ·simp only [hc]; exact ihx f h Q Q' hq hs
   ·simp only [hc]; exact ihy f h Q Q' hq hs
  ·exact hs.elim
 | block id x ih =>
  intro f h Q Q' hq hs
  refine ih f h _ _ ?_ hs
  intro e f' h' hk
  cases e with
  | norm => exact hq _ _ _ hk
  | ret => exact hq _ _ _ hk
  | exit id' =>
   simp only at hk ⊢
   split at hk
   ·rename_i hb; rw [hb]; exact hq _ _ _ hk
   ·rename_i hb; rw [hb]; exact hq _ _ _ hk
 | loop x ih =>
  intro f h Q Q' hq hs
  exact SL.mono (hs x rfl) hq
 | scope x ih => exact fun f h Q Q' hq hs => ih f h Q Q' hq hs
 | rangeFunc g ps assign body _ _ =>
  intro f h Q Q' hq hs
  exact SRange_mono hs hq
where
 SOps_mono {R W : Set'} {ops : List Oper} {K K' : Tm → Heap → Prop} : ∀ {l : List Oper} {tm : Tm} {h : Heap}, SOps M R W ops l tm h K → (∀ tm h, K tm h → K' tm h) → SOps M R W ops l tm h K'
  | [], tm, h, hs, hk => hk _ _ hs
  | o :: l, tm, h, hs, hk => by
   unfold SOps at hs ⊢
   cases hw : wantV ops tm o with
   | none => rw [hw] at hs; exact hs.elim
   | some t =>
    rw [hw] at hs
    cases t with
    | true =>
     change SOp M R W tm h o _ at hs
     show SOp M R W tm h o _
     rw [LOp_eq] at hs ⊢
     exact lowOps_S.LOp_mono hs fun v h' h1 => SOps_mono h1 hk
    | false => exact SOps_mono (l := l) hs hk
 LRows_mono {Rt Wt : Set'} {ps : List (Nat × Nat)} {n : Nat} {K K' : Tm → Heap → List RowP → Prop} : ∀ {l : List LO} {tm : Tm} {h : Heap} {rows : List RowP}, LRows M Rt Wt ps n l tm h rows K → (∀ tm h rows, K tm h rows → K' tm h rows) → LRows M Rt Wt ps n l tm h rows K'
  | [], tm, h, rows, hs, hk => hk _ _ _ hs
  | o :: l, tm, h, rows, hs, hk => by
   unfold LRows at hs ⊢
   cases hw : wantL tm o.grd with
   | none => rw [hw] at hs; exact hs.elim
   | some t =>
    rw [hw] at hs
    cases t with
    | true =>
     simp only [] at hs ⊢
     cases hc : isCall o.op with
     | false =>
      rw [hc] at hs
      exact yZ.LOpD_mono (K := fun v h' R W => LRows M Rt Wt ps n l (tm.put o.dst v) h' (rows ++ [⟨R, W, h.n, h'.n⟩]) K) hs fun v h' R W h1 => LRows_mono h1 hk
     | true =>
      rw [hc] at hs
      exact hs.imp (fun hs => yZ.LOpD_mono (K := fun v h' R W => LRows M Rt Wt ps n l (tm.put o.dst v) h' (rows ++ [⟨R, W, h.n, h'.n⟩]) K) hs fun v h' R W h1 => LRows_mono h1 hk) fun hs => yZ.LDem_mono (K := fun v h' R W => LRows M Rt Wt ps n l (tm.put o.dst v) h' (rows ++ [⟨R, W, h.n, h'.n⟩]) K) hs fun v h' R W h1 => LRows_mono h1 hk
    | false => exact LRows_mono (l := l) hs hk
 SEnd_mono {W : Set'} {L : Nat} {f : Fr} {h : Heap} {Q Q' : Ex → Fr → Heap → Prop} (hs : SEnd W L f h Q) (hq : ∀ e f h, Q e f h → Q' e f h) : SEnd W L f h Q' := by
  unfold SEnd at *
  split at hs
  ·obtain ⟨h1, h2, h3⟩ := hs
   refine ⟨h1, h2, ?_⟩
   split at h3
   ·exact hq _ _ _ h3
   ·exact hq _ _ _ h3
   ·exact hq _ _ _ h3
   ·exact h3.elim
  ·exact hs.elim
 SRange_mono {R W : Set'} {rd : Option Nat} {g : Operand} {ps : Array Tmp} {assign body : Code} {f : Fr} {h : Heap} {Q Q' : Ex → Fr → Heap → Prop} (hs : xZ M R W rd g ps assign body f h Q) (hq : ∀ e f h, Q e f h → Q' e f h) : xZ M R W rd g ps assign body f h Q' := by
  unfold xZ at *
  split at hs
  ·refine ⟨hs.1, ?_⟩
   have hs := hs.2
   split at hs
   ·exact hs.mono fun v h2 he => SEnd_mono he hq
   ·split at hs
    ·exact ⟨hs.1, hs.2.mono fun v h2 he => SEnd_mono he hq⟩
    ·exact hs.elim
  ·exact hs.elim

theorem SF.low (hm : M.P.follows .mixedOrders = true) {f : FuncId} {fn : Func} {args : List V} {h : Heap} {R W : Set'} {Q : V → Heap → Prop} {ir : LC} {n : Nat} {rs : List ResultVar} (hf : M.P.funcs[f]? = some fn)
  (hir : (fn.body.map Vm.low, fn.ntmps, fn.results.toList) = (some ir, n, rs))
  (hs : LS M (fun b => h.n ≤ b ∨ R b) (fun b => h.n ≤ b ∨ W b) none ir ⟨initTm n args, []⟩ h fun e f' h' => match e with
   | .exit _ => False
   | _ => takeH (fun b => h.n ≤ b ∨ W b) f'.mks h' fun h2 => match yA M.P f'.tm h2 rs with
    | some (vs, rr) => allB (fun b => h.n ≤ b ∨ R b) rr ∧ Q (retV vs) h2
    | none => False) : SF M f args h R W Q := by
 obtain ⟨h1, h2, h3⟩ := (by simpa using hir : fn.body.map Vm.low = some ir ∧ fn.ntmps = n ∧ fn.results.toList = rs)
 cases hb : fn.body with
 | none => simp [hb] at h1
 | some c =>
  simp [hb] at h1
  subst h1 h2 h3
  refine SF.of hm hf hb (LS_S c _ _ _ _ ?_ hs)
  intro e f' h' hk
  cases e with
  | norm => exact hk
  | ret => exact hk
  | exit id => exact hk
theorem SL.low (hm : M.P.follows .mixedOrders = true) {R W : Set'} {rd : Option Nat} {c' : Code} {c : LC} (hc : Vm.low c' = c) {Q : Ex → Fr → Heap → Prop} (I : Nat → Fr → Heap → Prop)
  (hI : ∀ k f h, I k f h → LS M R W rd c f h (Ex.next (fun f' h' => ∃ k', k' < k ∧ I k' f' h') Q)) (k : Nat) (f : Fr) (h : Heap) (h0 : I k f h) : SL M R W rd c' f h Q := by
 subst hc
 exact SL.inv hm I (fun k f h hi => LS_S c' f h _ _ (fun _ _ _ h => h) (hI k f h hi)) k f h h0

end Go.Vm
set_option linter.unusedVariables false
namespace Go.Vm
variable {P : Program}

def YEnd (l : Nat) (Q : V → Heap → Prop) (e : Ex) (f : Fr) (h : Heap) : Prop :=
 ∃ lv, h.get l = some (.loop lv) ∧ Q (.bool e.jump.isNone) (h.set l (.loop { lv with state := if e.jump.isNone then .ready else .done, pending := e.jump }))
def YMid (M : MP) (R W : Set') (l : Nat) (body : Code) (Q : V → Heap → Prop) (e : Ex) (f : Fr) (h : Heap) : Prop :=
 e = .norm ∧ ∃ lv, h.get l = some (.loop lv) ∧ lv.state = .ready ∧ SC M R W (some l) body f (h.set l (.loop { lv with state := .busy })) (YEnd l Q)

theorem SY.of_body (hm : P.follows .mixedOrders = true) {l : Nat} {args : List V} {h : Heap} {R W : Set'} {Q : V → Heap → Prop} {lv : Loopv} {tm : Tm} (hg : h.get l = some (.loop lv)) (hR : R l) (hW : W l)
  (htm : setPs lv.tmps lv.params args = some tm) (ha : SC ⟨P, true⟩ R W (some l) lv.assign ⟨tm, []⟩ h (YMid ⟨P, true⟩ R W l lv.body Q)) : SY ⟨P, true⟩ l args h R W Q := by
 intro H σ w p hon his
 have ok1 := SC.okD hm _ _ _ _ ha
 have hl0 := Heap.zD hg
 have hHl : H l = some (.loop lv) := by rw [p.agree l hl0 (.inl hR), hg]
 obtain ⟨loc, hloc, lp, hw, hrel⟩ := p.inv.rel l _ hHl rfl
 have hb : σ.b l = loc.blk := Ren.zY hloc
 have hps := setPs_rel (σ := σ) lv.params args lv.tmps tm lp.tmps htm hrel.tmps hon
 refine ⟨lp.fn, (lp.params.zip (V.reL σ args).toArray).foldl (fun tmps (x : Tmp × Value) => tmps.setIfInBounds x.1 x.2) lp.tmps, lp.assign, lp.body, ?_, ?_⟩
 ·rw [hb]
  have := run_yield (P := P) hw (args := (V.reL σ args).toArray) (by rw [hrel.params]; simp [V.zM, hps.1])
  exact this
 ·rw [hb]
  refine roundIn_of_wpIn trivial ?_
  rw [hrel.assign, hrel.body]
  have htr : jP σ tm ((lp.params.zip (V.reL σ args).toArray).foldl (fun tmps (x : Tmp × Value) => tmps.setIfInBounds x.1 x.2) lp.tmps) := by
   rw [hrel.params, ← Array.foldl_toList]
   simpa using hps.2
  have hF : (FW none).inRound loc.blk = FW ((some l).map σ.b) := by simp [Fence.inRound, FW, hb]
  rw [hF]
  refine ok1 H σ w _ _ (fun l' h => by cases h; exact his) p ⟨htr, rfl, fun b h => by cases h⟩ fun e f1 h1 σ1 H1 a1 w1 q1 vf1 hf1 hs1 => ?_
  obtain ⟨rfl, lv1, hg1, hready, hbody⟩ := q1
  have ok2 := SC.okD hm _ _ _ _ hbody
  have p1 := p.snd vf1 hs1
  have hl1 := Heap.zD hg1
  -- the round begins
  have hH1 : H1 l = some (.loop lv1) := by rw [p1.agree l hl1 (.inr hW), hg1]
  obtain ⟨loc1, hloc1, lp1, hw1, hrel1⟩ := hs1.goes.inv.rel l _ hH1 rfl
  have hlb1 : loc1 = loc := by have := hs1.goes.le l loc hloc; rw [hloc1] at this; cases this; rfl
  subst hlb1
  have hlt1 : loc1.blk < w1.heap.size := (Array.getElem?_eq_some_iff.1 hw1).1
  have vfb : VF h1 (h1.set l (.loop { lv1 with state := .busy })) W := vf_set hl1 _ hW
  have hsb := step_set (w' := w1.putObj loc1.blk (.loop { lp1 with state := .busy })) (p1.to (h' := h1.set l (.loop { lv1 with state := .busy }))) hg1 rfl hW hloc1 (putObj_size _ _ _) (fun k hk => World.putObj_heap_other hk) rfl rfl rfl (by
   rw [World.putObj_heap_same hlt1]; exact ⟨_, rfl, { hrel1 with state := rfl }⟩)
  refine ⟨_, run_beginRound hw1 (by rw [hrel1.state]; exact hready), ?_⟩
  have pb := p1.snd vfb hsb
  have hF1 : FW ((some l).map σ.b) = FW ((some l).map σ1.b) := by simp [hb, Ren.zY hloc1]
  rw [hF1]
  refine ok2 _ σ1 _ a1 _ (fun l' h => by cases h; exact ⟨loc1, hloc1⟩) pb hf1 fun e f2 h2 σ2 H2 a2 w2 q2 vf2 hf2 hs2 => ?_
  obtain ⟨lv2, hg2, hq⟩ := q2
  have p2 := pb.snd vf2 hs2
  have hl2 := Heap.zD hg2
  -- the round ends
  have hH2 : H2 l = some (.loop lv2) := by rw [p2.agree l hl2 (.inr hW), hg2]
  obtain ⟨loc2, hloc2, lp2, hw2, hrel2⟩ := hs2.goes.inv.rel l _ hH2 rfl
  have hlb2 : loc2 = loc1 := by have := hs2.goes.le l loc1 hloc1; rw [hloc2] at this; cases this; rfl
  subst hlb2
  have hlt2 : loc2.blk < w2.heap.size := (Array.getElem?_eq_some_iff.1 hw2).1
  have vfe : VF h2 (h2.set l (.loop { lv2 with state := if e.jump.isNone then .ready else .done, pending := e.jump })) W := vf_set hl2 _ hW
  have hse := step_set (w' := w2.putObj loc2.blk (.loop { lp2 with state := if e.jump.isNone then .ready else .done, pending := e.jump })) (p2.to (h' := h2.set l (.loop { lv2 with state := if e.jump.isNone then .ready else .done, pending := e.jump }))) hg2 rfl hW hloc2 (putObj_size _ _ _) (fun k hk => World.putObj_heap_other hk) rfl rfl rfl (by
   rw [World.putObj_heap_same hlt2]; exact ⟨_, rfl, { hrel2 with state := rfl, pending := rfl }⟩)
  have hrun := run_endRound (P := P) e.jump hw2
  have hvf := ((vf1.trans vfb).trans vf2).trans vfe
  have hst := Step.trans p.to ((vf1.trans vfb).trans vf2) vfe (Step.trans p.to (vf1.trans vfb) vf2 (Step.trans p.to vf1 vfb hs1 hsb) hs2) hse
  have fin : ∃ v' w', (Instr.endRound loc2.blk e.jump).run P w2 = .ok v' w' ∧ ∃ x σ' H' v h', Q v h' ∧ VF h h' W ∧ Ending.returned v' = .returned x ∧ zU σ' v x ∧ Step P h h' W H H' σ σ' w w' :=
   ⟨_, _, hrun, _, σ2, _, .bool e.jump.isNone, _, hq, hvf, rfl, ⟨trivial, rfl⟩, hst⟩
  cases e with
  | norm => exact fin
  | ret => exact fin
  | exit id => exact fin

end Go.Vm
set_option linter.unusedVariables false
namespace Go.Vm
variable {P : Program} {M : MP}

def onO {α : Type} (x : Option α) (k : α → Prop) : Prop := match x with
 | some v => k v
 | none => False
theorem kU {α : Type} (v : α) (k : α → Prop) : onO (some v) k = k v := rfl
def onPtr (x : Option V) (k : Nat → Nat → Prop) : Prop := match x with
 | some (.ptr (some (b, off))) => k b off
 | _ => False
def onBool (x : Option V) (t e : Prop) : Prop := match x with
 | some (.bool true) => t
 | some (.bool false) => e
 | _ => False
section
variable (R W : Set') (tm : Tm) (h : Heap) (K : V → Heap → Prop)
theorem LOp_makeMap (t : TypeId) : LOp M R W tm h (.makeMap t none) K = K (.map (some h.n)) (h.push (.map [] 0)) := by
 unfold LOp SOp bare; simp only [evP]; simp [allB]
theorem LOp_lookup (t : TypeId) (x y : Operand) (ok : Bool) : LOp M R W tm h (.lookup t x y ok) K = onO (evV tm x) fun a => onO (evV tm y) fun k => onO (lookV M.P t h a k ok) fun r => allB R r.2 ∧ K r.1 h := by
 unfold LOp SOp bare; simp only [evP]
 cases evV tm x with
 | none => simp [onO]
 | some a =>
  cases evV tm y with
  | none => simp [onO]
  | some b => simp only [kU]; cases hq : lookV M.P t h a b ok <;> simp [onO, allB]
theorem LOp_mapUpdate (t : TypeId) (x y z : Operand) : LOp M R W tm h (.mapUpdate t x y z) K = onO (evV tm x) fun a => onO (evV tm y) fun k => onO (evV tm z) fun v => onO (updV M.P t h a k v) fun r => allB W r.2 ∧ K qE r.1 := by
 unfold LOp SOp bare; simp only [evP]
 cases evV tm x with
 | none => simp [onO]
 | some a =>
  cases evV tm y with
  | none => simp [onO]
  | some b =>
   cases evV tm z with
   | none => simp [onO]
   | some c => simp only [kU]; cases hq : updV M.P t h a b c <;> simp [onO, allB]
theorem LOp_range (t : TypeId) (x : Operand) : LOp M R W tm h (.range t x) K = onO (evV tm x) fun a => onO (rangeV M.P t h a) fun r => allB R r.2 ∧ K (.ptr (some (h.n, 0))) (h.push r.1) := by
 unfold LOp SOp bare; simp only [evP]
 cases evV tm x with
 | none => simp [onO]
 | some a => simp only [kU]; cases hq : rangeV M.P t h a <;> simp [onO, allB]
theorem LOp_entry (x : Operand) : LOp M R W tm h (.entry x) K = onPtr (evV tm x) fun b off => Nat.beq off 0 = true ∧ onO (entryV h b) fun r => allB R r.2 ∧ K r.1 h := by
 unfold LOp SOp bare onPtr; simp only [evP]
 cases evV tm x with
 | none => rfl
 | some a =>
  cases a <;> first | rfl | skip
  rename_i q
  rcases q with _ | ⟨b, off⟩
  ·rfl
  ·simp only []
   cases hz : Nat.beq off 0 with
   | false => simp
   | true => simp only [true_and]; cases hq : entryV h b <;> simp [onO, allB]
theorem LOp_next (P : Program) (x : Operand) : LOp ⟨P, true⟩ R W tm h (.next x false) K = onPtr (evV tm x) fun b off => Nat.beq off 0 = true ∧ SNext R W h b K := by
 unfold LOp SOp bare onPtr; simp only []
 cases evV tm x with
 | none => rfl
 | some a =>
  cases a <;> first | rfl | skip
  rename_i q
  rcases q with _ | ⟨b, off⟩
  ·rfl
  ·cases off with
   | zero => simp
   | succ n => simp
theorem LOp_move (x : Operand) : LOp M R W tm h (.move x) K = onO (evV tm x) fun v => K v h := by
 unfold LOp SOp bare; simp only [evP]; cases evV tm x <;> simp [one, onO, allB]
theorem LOp_assign (x : Operand) : LOp M R W tm h (.assign x) K = onO (evV tm x) fun v => K v h := by
 unfold LOp SOp bare; simp only [evP]; cases evV tm x <;> simp [one, onO, allB]
theorem LOp_pick (c a b : Operand) : LOp M R W tm h (.pick c a b) K = onBool (evV tm c) (onO (evV tm a) fun v => K v h) (onO (evV tm b) fun v => K v h) := by
 unfold LOp SOp bare onBool; simp only [evP]
 split
 ·rename_i pr hp
  split at hp
  ·rename_i hc; obtain ⟨v, h1, rfl⟩ := kR hp; simp [hc, h1, onO, allB]
  ·rename_i hc; obtain ⟨v, h1, rfl⟩ := kR hp; simp [hc, h1, onO, allB]
  ·cases hp
 ·rename_i hp
  split at hp
  ·rename_i hc; cases h1 : evV tm a <;> simp [h1, one] at hp; simp [hc, onO]
  ·rename_i hc; cases h1 : evV tm b <;> simp [h1, one] at hp; simp [hc, onO]
  ·rename_i h1 h2
   split
   ·rename_i hc; exact absurd hc h1
   ·rename_i hc; exact absurd hc h2
   ·rfl
theorem LOp_bin (op : BinOp) (t t' : TypeId) (x y : Operand) : LOp M R W tm h (.binOp op t x y t') K = onO (evV tm x) fun a => onO (evV tm y) fun b => onO (binN M.P op t x y a b) fun v => K v h := by
 unfold LOp SOp bare; simp only [evP]
 cases evV tm x with
 | none => simp [onO]
 | some a =>
  cases evV tm y with
  | none => simp [onO]
  | some b => simp only [kU]; cases binN M.P op t x y a b <;> simp [one, onO, allB]
theorem LOp_un (op : UnOp) (t : TypeId) (x : Operand) : LOp M R W tm h (.unOp op t x) K = onO (evV tm x) fun a => onO (unV op a) fun v => K v h := by
 unfold LOp SOp bare; simp only [evP]
 cases evV tm x with
 | none => simp [onO]
 | some a => simp only [kU]; cases unV op a <;> simp [one, onO, allB]
theorem LOp_nilCheck (x : Operand) : LOp M R W tm h (.nilCheck x) K = onO (evV tm x) fun v => notNil v = true ∧ K v h := by
 unfold LOp SOp bare; simp only [evP]
 cases evV tm x with
 | none => simp [onO]
 | some a => simp only [kU]; cases notNil a <;> simp [allB]
theorem LOp_makeFunc (f : FuncId) (xs ys : Array Operand) : LOp M R W tm h (.makeFunc (.func f) xs ys) K = onO (kY tm xs.toList) fun us => onO (kY tm ys.toList) fun vs => K (.func f us vs) h := by
 unfold LOp SOp bare; simp only [evP]
 cases kY tm xs.toList with
 | none => simp [onO]
 | some a => cases kY tm ys.toList <;> simp [onO, allB]
theorem LOp_extract (x : Operand) (i : Nat) : LOp M R W tm h (.extract x i) K = match evV tm x with
  | some (.tuple vs) => onO vs[i]? fun v => K v h
  | _ => False := by
 unfold LOp SOp bare; simp only [evP]
 cases evV tm x with
 | none => rfl
 | some a => cases a <;> first | rfl | (rename_i vs; cases hq : vs[i]? <;> simp [hq, one, onO, allB])
theorem LOp_fieldAddr (s : TypeId) (x : Operand) (f : Nat) : LOp M R W tm h (.fieldAddr s x f) K = onPtr (evV tm x) fun b off => onO (qP M.P s f) fun k => K (.ptr (some (b, off + k))) h := by
 unfold LOp SOp bare onPtr; simp only [evP]
 split
 ·rename_i pr hp
  split at hp
  ·rename_i b off hx
   split at hp
   ·rename_i k hf; cases hp; simp [hx, hf, onO, allB]
   ·cases hp
  ·cases hp
 ·rename_i hp
  split at hp
  ·rename_i b off hx
   split at hp
   ·cases hp
   ·rename_i hf; simp [hx, hf, onO]
  ·rename_i hne
   split
   ·rename_i b off hx; exact absurd hx (hne b off)
   ·rfl
theorem LOp_indexAddr (t : TypeId) (x ix : Operand) : LOp M R W tm h (.indexAddr t x ix) K = onO (evV tm x) fun a => onO (evV tm ix) fun b => onO (idxAddr M.P t a b) fun v => K v h := by
 unfold LOp SOp bare; simp only [evP]
 cases evV tm x with
 | none => simp [onO]
 | some a =>
  cases evV tm ix with
  | none => simp [onO]
  | some b => simp only [kU]; cases idxAddr M.P t a b <;> simp [one, onO, allB]
theorem LOp_load (t : TypeId) (x : Operand) : LOp M R W tm h (.load t x) K = onPtr (evV tm x) fun b off => R b ∧ onO (loadV M.P t h b off) fun v => K v h := by
 unfold LOp SOp bare onPtr; simp only [evP]
 split
 ·rename_i pr hp
  split at hp
  ·rename_i b off hx
   split at hp
   ·rename_i k hf; cases hp; simp [hx, hf, onO, allB]
   ·cases hp
  ·cases hp
 ·rename_i hp
  split at hp
  ·rename_i b off hx
   split at hp
   ·cases hp
   ·rename_i hf; simp [hx, hf, onO]
  ·rename_i hne
   split
   ·rename_i b off hx; exact absurd hx (hne b off)
   ·rfl
theorem LOp_store (t : TypeId) (x y : Operand) : LOp M R W tm h (.store t x y) K = onPtr (evV tm x) fun b off => onO (evV tm y) fun v => W b ∧ onO (storeV M.P t h b off v) fun h' => K qE h' := by
 unfold LOp SOp bare onPtr; simp only [evP]
 split
 ·rename_i pr hp
  split at hp
  ·rename_i b off v hx hy
   split at hp
   ·rename_i h' hf; cases hp; simp [hx, hy, hf, onO, allB]
   ·cases hp
  ·cases hp
 ·rename_i hp
  split at hp
  ·rename_i b off v hx hy
   split at hp
   ·cases hp
   ·rename_i hf; simp [hx, hy, hf, onO]
  ·rename_i hne
   split
   ·rename_i b off hx
    cases hy : evV tm y with
    | none => simp [onO]
    | some v => exact absurd hy (hne b off v hx)
   ·rfl
theorem LOp_box (t : TypeId) (x : Operand) : LOp M R W tm h (.box t x) K = onO (evV tm x) fun v => K (.ptr (some (h.n, 0))) (h.push (.cells (Blk.of v.qZ) t)) := by
 unfold LOp SOp bare; simp only [evP]; cases evV tm x <;> simp [onO, allB]
theorem LOp_alloc (t : TypeId) : LOp M R W tm h (.alloc t) K = onO (zeroV M.P t) fun v => K (.ptr (some (h.n, 0))) (h.push (.cells (Blk.of v.qZ) t)) := by
 unfold LOp SOp bare; simp only [evP]; cases zeroV M.P t <;> simp [onO, allB]
theorem LOp_makeSlice (t : TypeId) (x y : Operand) : LOp M R W tm h (.makeSlice t x y) K = match evV tm x, evV tm y with
  | some (.int _ l), some (.int _ c) => onO (xP M.P t l c h) fun r => K r.1 r.2
  | _, _ => False := by
 unfold LOp SOp bare; simp only [evP]
 cases evV tm x with
 | none => rfl
 | some a =>
  cases evV tm y with
  | none => cases a <;> rfl
  | some b => cases a <;> cases b <;> first | rfl | (rename_i k l k' c; cases hq : xP M.P t l c h <;> simp [hq, onO, allB])
theorem LOp_build (t : TypeId) (ps : Array (Nat × Operand)) : LOp M R W tm h (.build t ps) K = onO (xC tm ps.toList) fun vs => onO (jV M.P t vs) fun r => K (.agg r) h := by
 unfold LOp SOp bare; simp only [evP]
 cases xC tm ps.toList with
 | none => simp [onO]
 | some a => simp only [kU]; cases jV M.P t a <;> simp [onO, allB]
theorem LOp_buildSlice (t : TypeId) (n : Nat) (ps : Array (Nat × Operand)) : LOp M R W tm h (.buildSlice t n ps) K = onO (xC tm ps.toList) fun vs => onO (kD M.P t n vs) fun r => K (.slice (some (h.n, 0)) n n true) (h.push (.cells (Blk.of r.2) r.1)) := by
 unfold LOp SOp bare; simp only [evP]
 cases xC tm ps.toList with
 | none => simp [onO]
 | some a => simp only [kU]; cases kD M.P t n a <;> simp [onO, allB]
theorem LOp_slice (t : TypeId) (x : Operand) (lo hi mx : Option Operand) : LOp M R W tm h (.slice t x lo hi mx) K = onO (evV tm x) fun a => onO (evI tm lo) fun l => onO (evI tm hi) fun u => onO (evI tm mx) fun m => onO (kC M.P t a (l.map (·.2)) (u.map (·.2)) (m.map (·.2))) fun v => K v h := by
 unfold LOp SOp bare; simp only [evP]
 cases evV tm x with
 | none => simp [onO]
 | some a =>
  cases evI tm lo with
  | none => simp [onO]
  | some l =>
   cases evI tm hi with
   | none => simp [onO]
   | some u =>
    cases evI tm mx with
    | none => simp [onO]
    | some m => simp only [kU]; cases kC M.P t a (l.map (·.2)) (u.map (·.2)) (m.map (·.2)) <;> simp [one, onO, allB]
theorem xQ (s d : TypeId) (x : Operand) (hsd : s ≠ d) : LOp M R W tm h (.convert s d x) K = onO (evV tm x) fun a => onO (kS M.P s d a h) fun r => allB R r.2 ∧ K r.1 h := by
 have hb : Nat.beq s d = false := by
  cases hq : Nat.beq s d with
  | false => rfl
  | true => exact absurd (Nat.eq_of_beq_eq_true hq) hsd
 unfold LOp SOp bare; simp only [evP, hb]
 cases evV tm x with
 | none => simp [onO]
 | some a => simp only [kU]; cases kS M.P s d a h <;> simp [onO, allB]
theorem LOp_builtin (b : Builtin) (args : Array Operand) (ts : Array TypeId) : LOp M R W tm h (.call ⟨.builtin b, args, ts⟩) K = onO (kY tm args.toList) fun vs => onO (evB M.P h b ts vs) fun pr => allB R pr.r ∧ allB W pr.w ∧ K pr.v pr.h := by
 unfold LOp SOp bare; simp only [evP]
 cases kY tm args.toList with
 | none => simp [onO]
 | some a => simp only [kU]; cases evB M.P h b ts a <;> simp [onO]
theorem LOp_call (g : FuncId) (args : Array Operand) (ts : Array TypeId) : LOp M R W tm h (.call ⟨.value (.func g), args, ts⟩) K = onO (kY tm args.toList) fun vs => callable M.P g = true ∧ SF M g vs h R W K := by
 unfold LOp SOp bare; simp only [evV_func]
 cases kY tm args.toList with
 | none => simp [onO]
 | some a => simp [onO]
theorem LOp_callv (x : Operand) (args : Array Operand) (ts : Array TypeId) : LOp M R W tm h (.call ⟨.value x, args, ts⟩) K = match evV tm x with
  | some (.func g xs ys) => onO (kY tm args.toList) fun vs => callable M.P g = true ∧ SF M g ((xs ++ vs) ++ ys) h R W K
  | some (.yield l) => onO (kY tm args.toList) fun vs => SY M l vs h R W K
  | _ => False := by
 unfold LOp SOp bare; simp only []
 cases evV tm x with
 | none => rfl
 | some a => cases a <;> first | rfl | (cases kY tm args.toList <;> simp [onO])
end

theorem LOpD_call (tm : Tm) (h : Heap) (K : V → Heap → Set' → Set' → Prop) (g : FuncId) (args : Array Operand) (ts : Array TypeId) : qV P tm h (.call ⟨.value (.func g), args, ts⟩) K = onO (kY tm args.toList) fun vs => callable P g = true ∧ ∃ R W, SF (P : MP) g vs h R W fun v h' => K v h' R W := by
 unfold qV zV bare; simp only [evV_func]
 cases kY tm args.toList with
 | none => simp [onO]
 | some a => simp [onO]
theorem wantL_some (tm : Tm) (t : Tmp) (want : Bool) : wantL tm (some (t, want)) = match tm.get t with
  | some (.bool b) => some (b == want)
  | some (.raw _) => none
  | some _ => some false
  | none => none := rfl

theorem onO_eq {α : Type} (x : Option α) (k : α → Prop) : onO x k = match x with
  | some v => k v
  | none => False := rfl
theorem onPtr_eq (x : Option V) (k : Nat → Nat → Prop) : onPtr x k = match x with
  | some (.ptr (some (b, off))) => k b off
  | _ => False := rfl
theorem onBool_eq (x : Option V) (t e : Prop) : onBool x t e = match x with
  | some (.bool true) => t
  | some (.bool false) => e
  | _ => False := rfl

theorem beq_ft : (false == true) = false := rfl
theorem beq_tf : (true == false) = false := rfl
def rangesOf : Code → List (Code × Code)
 | .seq a b => rangesOf a ++ rangesOf b
 | .cond _ a b => rangesOf a ++ rangesOf b
 | .block _ c => rangesOf c
 | .loop c => rangesOf c
 | .scope c => rangesOf c
 | .rangeFunc _ _ a b => [(a, b)]
 | _ => []

end Go.Vm
namespace Go.Vm
attribute [go_sem ↓] LOp_move LOp_assign LOp_pick LOp_bin LOp_un LOp_nilCheck LOp_makeFunc LOp_extract LOp_fieldAddr LOp_indexAddr LOp_load LOp_store LOp_box LOp_alloc LOp_makeSlice LOp_build LOp_buildSlice LOp_slice xQ LOp_builtin LOp_makeMap LOp_lookup LOp_mapUpdate LOp_range LOp_entry LOp_next LOp_call LOp_callv onO_eq onPtr_eq onBool_eq
attribute [go_sem] beq_ft beq_tf LS wantL_some one evV_tmp evV_func evV_bool evV_int evV_str evV_nilp evV_nils evV_nilf Tm.put_some Tm.put_none initTm setL Tm.set_mk Tm.kL Tr.get_node Tr.put_node Tr.put_nil Tr.get_nil binN nilsV binW binA binV yJ notNil loadV storeV kY evB lenV xH intBin xW unV takeH yA retV allB idxAddr evI xC xZ SEnd V.qZ allOne V.one
end Go.Vm
set_option linter.unusedVariables false
namespace Go.Vm
variable {P : Program}

section
variable (tm : Tm) (h : Heap) (K : V → Heap → Set' → Set' → Prop)
theorem LOpD_move (x : Operand) : qV P tm h (.move x) K = onO (evV tm x) fun v => K v h (fun x => x ∈ ([] : List Nat)) (fun x => x ∈ ([] : List Nat)) := by
 unfold qV zV bare; simp only [evP]
 cases evV tm x with
 | none => simp [one, onO]
 | some a => simp [one, onO]
theorem LOpD_assign (x : Operand) : qV P tm h (.assign x) K = onO (evV tm x) fun v => K v h (fun x => x ∈ ([] : List Nat)) (fun x => x ∈ ([] : List Nat)) := by
 unfold qV zV bare; simp only [evP]
 cases evV tm x with
 | none => simp [one, onO]
 | some a => simp [one, onO]
theorem LOpD_pick (c a b : Operand) : qV P tm h (.pick c a b) K = onBool (evV tm c) (onO (evV tm a) fun v => K v h (fun x => x ∈ ([] : List Nat)) (fun x => x ∈ ([] : List Nat))) (onO (evV tm b) fun v => K v h (fun x => x ∈ ([] : List Nat)) (fun x => x ∈ ([] : List Nat))) := by
 unfold qV zV bare onBool; simp only [evP]
 cases evV tm c with
 | none => rfl
 | some q =>
  cases q <;> first | rfl | skip
  rename_i t
  cases t
  ·cases evV tm b <;> simp [one, onO]
  ·cases evV tm a <;> simp [one, onO]
theorem LOpD_bin (op : BinOp) (t t' : TypeId) (x y : Operand) : qV P tm h (.binOp op t x y t') K = onO (evV tm x) fun a => onO (evV tm y) fun b => onO (binN P op t x y a b) fun v => K v h (fun x => x ∈ ([] : List Nat)) (fun x => x ∈ ([] : List Nat)) := by
 unfold qV zV bare; simp only [evP]
 cases evV tm x with
 | none => simp [onO]
 | some a =>
  cases evV tm y with
  | none => simp [onO]
  | some b => simp only [kU]; cases hq : binN P op t x y a b <;> simp [one, onO]
theorem LOpD_un (op : UnOp) (t : TypeId) (x : Operand) : qV P tm h (.unOp op t x) K = onO (evV tm x) fun a => onO (unV op a) fun v => K v h (fun x => x ∈ ([] : List Nat)) (fun x => x ∈ ([] : List Nat)) := by
 unfold qV zV bare; simp only [evP]
 cases evV tm x with
 | none => simp [onO]
 | some a => simp only [kU]; cases hq : unV op a <;> simp [one, onO]
theorem LOpD_nilCheck (x : Operand) : qV P tm h (.nilCheck x) K = onO (evV tm x) fun v => notNil v = true ∧ K v h (fun x => x ∈ ([] : List Nat)) (fun x => x ∈ ([] : List Nat)) := by
 unfold qV zV bare; simp only [evP]
 cases evV tm x with
 | none => simp [onO]
 | some a => simp only [kU]; cases hq : notNil a <;> simp [hq]
theorem LOpD_fieldAddr (s : TypeId) (x : Operand) (f : Nat) : qV P tm h (.fieldAddr s x f) K = onPtr (evV tm x) fun b off => onO (qP P s f) fun k => K (.ptr (some (b, off + k))) h (fun x => x ∈ ([] : List Nat)) (fun x => x ∈ ([] : List Nat)) := by
 unfold qV zV bare onPtr; simp only [evP]
 cases evV tm x with
 | none => rfl
 | some a =>
  cases a <;> first | rfl | skip
  rename_i q
  rcases q with _ | ⟨b, off⟩
  ·rfl
  ·cases hq : qP P s f <;> simp [onO]
theorem LOpD_indexAddr (t : TypeId) (x y : Operand) : qV P tm h (.indexAddr t x y) K = onO (evV tm x) fun a => onO (evV tm y) fun b => onO (idxAddr P t a b) fun v => K v h (fun x => x ∈ ([] : List Nat)) (fun x => x ∈ ([] : List Nat)) := by
 unfold qV zV bare; simp only [evP]
 cases evV tm x with
 | none => simp [onO]
 | some a =>
  cases evV tm y with
  | none => simp [onO]
  | some b => simp only [kU]; cases hq : idxAddr P t a b <;> simp [one, onO]
theorem LOpD_load (t : TypeId) (x : Operand) : qV P tm h (.load t x) K = onPtr (evV tm x) fun b off => onO (loadV P t h b off) fun v => K v h (fun x => x ∈ [b]) (fun x => x ∈ ([] : List Nat)) := by
 unfold qV zV bare onPtr; simp only [evP]
 cases evV tm x with
 | none => rfl
 | some a =>
  cases a <;> first | rfl | skip
  rename_i q
  rcases q with _ | ⟨b, off⟩
  ·rfl
  ·cases hq : loadV P t h b off <;> simp [hq, onO]
theorem LOpD_store (t : TypeId) (x y : Operand) : qV P tm h (.store t x y) K = onPtr (evV tm x) fun b off => onO (evV tm y) fun v => onO (storeV P t h b off v) fun h' => K qE h' (fun x => x ∈ ([] : List Nat)) (fun x => x ∈ [b]) := by
 unfold qV zV bare onPtr; simp only [evP]
 cases evV tm x with
 | none => rfl
 | some a =>
  cases a <;> first | rfl | skip
  rename_i q
  rcases q with _ | ⟨b, off⟩
  ·rfl
  ·cases evV tm y with
   | none => simp [onO]
   | some v => simp only [kU]; cases hq : storeV P t h b off v <;> simp [onO]
theorem LOpD_box (t : TypeId) (x : Operand) : qV P tm h (.box t x) K = onO (evV tm x) fun v => K (.ptr (some (h.n, 0))) (h.push (.cells (Blk.of v.qZ) t)) (fun x => x ∈ ([] : List Nat)) (fun x => x ∈ ([] : List Nat)) := by
 unfold qV zV bare; simp only [evP]; cases evV tm x <;> simp [onO]
theorem LOpD_alloc (t : TypeId) : qV P tm h (.alloc t) K = onO (zeroV P t) fun v => K (.ptr (some (h.n, 0))) (h.push (.cells (Blk.of v.qZ) t)) (fun x => x ∈ ([] : List Nat)) (fun x => x ∈ ([] : List Nat)) := by
 unfold qV zV bare; simp only [evP]; cases zeroV P t <;> simp [onO]
theorem LOpD_extract (x : Operand) (i : Nat) : qV P tm h (.extract x i) K = match evV tm x with
  | some (.tuple vs) => onO vs[i]? fun v => K v h (fun x => x ∈ ([] : List Nat)) (fun x => x ∈ ([] : List Nat))
  | _ => False := by
 unfold qV zV bare; simp only [evP]
 cases evV tm x with
 | none => rfl
 | some a => cases a <;> first | rfl | (rename_i vs; cases hq : vs[i]? <;> simp [hq, one, onO])
theorem LOpD_makeSlice (t : TypeId) (x y : Operand) : qV P tm h (.makeSlice t x y) K = match evV tm x, evV tm y with
  | some (.int _ l), some (.int _ c) => onO (xP P t l c h) fun r => K r.1 r.2 (fun x => x ∈ ([] : List Nat)) (fun x => x ∈ ([] : List Nat))
  | _, _ => False := by
 unfold qV zV bare; simp only [evP]
 cases evV tm x with
 | none => rfl
 | some a =>
  cases evV tm y with
  | none => cases a <;> rfl
  | some b => cases a <;> cases b <;> first | rfl | (rename_i k l k' c; cases hq : xP P t l c h <;> simp [hq, onO])
theorem LOpD_build (t : TypeId) (ps : Array (Nat × Operand)) : qV P tm h (.build t ps) K = onO (xC tm ps.toList) fun vs => onO (jV P t vs) fun r => K (.agg r) h (fun x => x ∈ ([] : List Nat)) (fun x => x ∈ ([] : List Nat)) := by
 unfold qV zV bare; simp only [evP]
 cases xC tm ps.toList with
 | none => simp [onO]
 | some a => simp only [kU]; cases hq : jV P t a <;> simp [onO]
theorem yX (s d : TypeId) (x : Operand) (hsd : s ≠ d) : qV P tm h (.convert s d x) K = onO (evV tm x) fun a => onO (kS P s d a h) fun r => K r.1 h (fun x => x ∈ r.2) (fun x => x ∈ ([] : List Nat)) := by
 have hb : Nat.beq s d = false := by
  cases hq : Nat.beq s d with
  | false => rfl
  | true => exact absurd (Nat.eq_of_beq_eq_true hq) hsd
 unfold qV zV bare; simp only [evP, hb]
 cases evV tm x with
 | none => simp [onO]
 | some a => simp only [kU]; cases hq : kS P s d a h <;> simp [onO]
theorem LOpD_builtin (b : Builtin) (args : Array Operand) (ts : Array TypeId) : qV P tm h (.call ⟨.builtin b, args, ts⟩) K = onO (kY tm args.toList) fun vs => onO (evB P h b ts vs) fun pr => K pr.v pr.h (fun x => x ∈ pr.r) (fun x => x ∈ pr.w) := by
 unfold qV zV bare; simp only [evP]
 cases kY tm args.toList with
 | none => simp [onO]
 | some a => simp only [kU]; cases hq : evB P h b ts a <;> simp [onO]
end
attribute [go_sem ↓] LOpD_move LOpD_assign LOpD_pick LOpD_bin LOpD_un LOpD_nilCheck LOpD_fieldAddr LOpD_indexAddr LOpD_load LOpD_store LOpD_box LOpD_alloc LOpD_extract LOpD_makeSlice LOpD_build yX LOpD_builtin LOpD_call
attribute [go_sem] yN footP ApartP

end Go.Vm
set_option linter.unusedVariables false
namespace Go.Vm
variable {P : Program} {M : MP}

inductive It where
 | ops (l : List LO)
 | code (c : LC)
 | blk (id : Nat)

def resume (M : MP) (R W : Set') (rd : Option Nat) (Q : Ex → Fr → Heap → Prop) : List It → Ex → Fr → Heap → Prop
 | [], e, f, h => Q e f h
 | .blk id :: t, e, f, h => match e with
  | .norm => resume M R W rd Q t .norm f h
  | .exit id' => match Nat.beq id' id with
   | true => resume M R W rd Q t .norm f h
   | false => resume M R W rd Q t (.exit id') f h
  | .ret => resume M R W rd Q t .ret f h
 | .ops l :: t, e, f, h => match e with
  | .norm => LOps M R W l f.tm h fun tm h' => resume M R W rd Q t .norm ⟨tm, f.mks⟩ h'
  | .exit id => resume M R W rd Q t (.exit id) f h
  | .ret => resume M R W rd Q t .ret f h
 | .code c :: t, e, f, h => match e with
  | .norm => LS M R W rd c f h (resume M R W rd Q t)
  | .exit id => resume M R W rd Q t (.exit id) f h
  | .ret => resume M R W rd Q t .ret f h

section
variable (R W : Set') (rd : Option Nat) (Q : Ex → Fr → Heap → Prop) (t : List It) (f : Fr) (h : Heap)
def GO (M : MP) (R W : Set') (rd : Option Nat) (Q : Ex → Fr → Heap → Prop) (t : List It) (f : Fr) (h : Heap) : Prop := resume M R W rd Q t .norm f h
def qK (M : MP) (R W : Set') (rd : Option Nat) (Q : Ex → Fr → Heap → Prop) (g : FuncId) (vs : List V) (d : Option Tmp) (l : List LO) (t : List It) (f : Fr) (h : Heap) : Prop :=
 SF M g vs h R W fun v h' => GO M R W rd Q (.ops l :: t) ⟨f.tm.put d v, f.mks⟩ h'
def GYield (M : MP) (R W : Set') (rd : Option Nat) (Q : Ex → Fr → Heap → Prop) (y : Nat) (vs : List V) (d : Option Tmp) (l : List LO) (t : List It) (f : Fr) (h : Heap) : Prop :=
 SY M y vs h R W fun v h' => GO M R W rd Q (.ops l :: t) ⟨f.tm.put d v, f.mks⟩ h'
def kE (M : MP) (R W : Set') (rd : Option Nat) (Q : Ex → Fr → Heap → Prop) (c : LC) (t : List It) (f : Fr) (h : Heap) : Prop :=
 ∀ c', low c' = c → SL M R W rd c' f h (resume M R W rd Q t)
def yH (M : MP) (R W : Set') (rd : Option Nat) (Q : Ex → Fr → Heap → Prop) (g : Operand) (ps : Array Tmp) (a b : Code) (t : List It) (f : Fr) (h : Heap) : Prop := xZ M R W rd g ps a b f h (resume M R W rd Q t)
def qX (M : MP) (R W : Set') (rd : Option Nat) (Q : Ex → Fr → Heap → Prop) (l : List LO) (ps : List (Nat × Nat)) (n : Nat) (rows : List RowP) (t : List It) (f : Fr) (h : Heap) : Prop :=
 LRows M R W ps n l f.tm h rows fun tm' h' rows => yN rows ps ∧ footP R W n rows ∧ GO M R W rd Q t ⟨tm', f.mks⟩ h'
def qN (M : MP) (R W : Set') (rd : Option Nat) (Q : Ex → Fr → Heap → Prop) (g : FuncId) (vs : List V) (d : Option Tmp) (l : List LO) (ps : List (Nat × Nat)) (n : Nat) (rows : List RowP) (t : List It) (f : Fr) (h : Heap) : Prop :=
 (∃ R' W', SF (M.P : MP) g vs h R' W' fun v h' => qX M R W rd Q l ps n (rows ++ [⟨R', W', h.n, h'.n⟩]) t ⟨f.tm.put d v, f.mks⟩ h') ∨
 (M.dem = true ∧ (ps.all fun p => !Nat.beq p.1 rows.length) = true ∧ ∃ R' W', yN (rows ++ [⟨R', W', h.n, h.n⟩]) (ps.filter fun p => Nat.ble p.2 rows.length) ∧ footP R W n (rows ++ [⟨R', W', h.n, h.n⟩]) ∧ SF M g vs h R' W' fun v h' => qX M R W rd Q l ps n (rows ++ [⟨R', W', h.n, h'.n⟩]) t ⟨f.tm.put d v, f.mks⟩ h')

theorem go_nil : GO M R W rd Q [] f h = Q .norm f h := rfl
theorem go_seq (a b : LC) : GO M R W rd Q (.code (.seq a b) :: t) f h = GO M R W rd Q (.code a :: .code b :: t) f h := by
 show LS M R W rd a f h _ = LS M R W rd a f h _
 congr 1
theorem go_ops (l : List LO) : GO M R W rd Q (.code (.ops l) :: t) f h = GO M R W rd Q (.ops l :: t) f h := rfl
theorem go_skip : GO M R W rd Q (.code .skip :: t) f h = GO M R W rd Q t f h := rfl
theorem go_block (id : Nat) (c : LC) : GO M R W rd Q (.code (.block id c) :: t) f h = GO M R W rd Q (.code c :: .blk id :: t) f h := by
 show LS M R W rd c f h _ = LS M R W rd c f h _
 congr 1
theorem go_blk (id : Nat) : GO M R W rd Q (.blk id :: t) f h = GO M R W rd Q t f h := rfl
theorem go_cond (c : Operand) (a b : LC) : GO M R W rd Q (.code (.cond c a b) :: t) f h = match evV f.tm c with
  | some (.bool x) => match x with
   | true => GO M R W rd Q (.code a :: t) f h
   | false => GO M R W rd Q (.code b :: t) f h
  | _ => False := rfl
theorem go_loop (c : LC) : GO M R W rd Q (.code (.loop c) :: t) f h = kE M R W rd Q c t f h := rfl
theorem go_range (g : Operand) (ps : Array Tmp) (a b : Code) : GO M R W rd Q (.code (.range g ps a b) :: t) f h = yH M R W rd Q g ps a b t f h := rfl
theorem go_exit (id : Nat) : GO M R W rd Q (.code (.exit id) :: t) f h = resume M R W rd Q t (.exit id) f h := rfl
theorem resume_exit_nil (id : Nat) : resume M R W rd Q [] (.exit id) f h = Q (.exit id) f h := rfl
theorem resume_exit_code (id : Nat) (c : LC) : resume M R W rd Q (.code c :: t) (.exit id) f h = resume M R W rd Q t (.exit id) f h := rfl
theorem resume_exit_blk (id id' : Nat) : resume M R W rd Q (.blk id' :: t) (.exit id) f h = if id = id' then GO M R W rd Q t f h else resume M R W rd Q t (.exit id) f h := by
 show (match Nat.beq id id' with | true => _ | false => _) = _
 cases hb : Nat.beq id id' with
 | true => rw [if_pos (Nat.eq_of_beq_eq_true hb)]; rfl
 | false => rw [if_neg fun e => by subst e; simp at hb]
theorem resume_ret : resume M R W rd Q t .ret f h = Q .ret f h := by
 induction t with
 | nil => rfl
 | cons x t ih => cases x <;> exact ih
theorem go_ret : GO M R W rd Q (.code .ret :: t) f h = Q .ret f h := resume_ret R W rd Q t f h
theorem go_ops_nil : GO M R W rd Q (.ops [] :: t) f h = GO M R W rd Q t ⟨f.tm, f.mks⟩ h := rfl
theorem go_ops_cons (d : Option Tmp) (op : Op) (l : List LO) : GO M R W rd Q (.ops (⟨d, op, none⟩ :: l) :: t) f h = LOp M R W f.tm h op fun v h' => GO M R W rd Q (.ops l :: t) ⟨f.tm.put d v, f.mks⟩ h' := rfl
theorem go_ops_guard (d : Option Tmp) (op : Op) (tt : Tmp) (want : Bool) (l : List LO) : GO M R W rd Q (.ops (⟨d, op, some (tt, want)⟩ :: l) :: t) f h = match wantL f.tm (some (tt, want)) with
  | some true => GO M R W rd Q (.ops (⟨d, op, none⟩ :: l) :: t) f h
  | some false => GO M R W rd Q (.ops l :: t) ⟨f.tm.put d qE, f.mks⟩ h
  | none => False := rfl
theorem go_call (d : Option Tmp) (g : FuncId) (args : Array Operand) (ts : Array TypeId) (l : List LO) : GO M R W rd Q (.ops (⟨d, .call ⟨.value (.func g), args, ts⟩, none⟩ :: l) :: t) f h = match kY f.tm args.toList with
  | some vs => callable M.P g = true ∧ qK M R W rd Q g vs d l t f h
  | none => False := by
 rw [go_ops_cons, LOp_call]; cases kY f.tm args.toList <;> rfl
theorem go_callv (d : Option Tmp) (x : Tmp) (args : Array Operand) (ts : Array TypeId) (l : List LO) : GO M R W rd Q (.ops (⟨d, .call ⟨.value (.tmp x), args, ts⟩, none⟩ :: l) :: t) f h = match f.tm.get x with
  | some (.func g xs ys) => (match kY f.tm args.toList with
   | some vs => callable M.P g = true ∧ qK M R W rd Q g ((xs ++ vs) ++ ys) d l t f h
   | none => False)
  | some (.yield y) => (match kY f.tm args.toList with
   | some vs => GYield M R W rd Q y vs d l t f h
   | none => False)
  | _ => False := by
 rw [go_ops_cons, LOp_callv, evV_tmp]
 cases f.tm.get x with
 | none => rfl
 | some a => cases a <;> first | rfl | (cases kY f.tm args.toList <;> rfl)
theorem go_draw (l : List LO) (ps : List (Nat × Nat)) : GO M R W rd Q (.code (.draw l ps) :: t) f h = qX M R W rd Q l ps h.n [] t f h := rfl
theorem grows_nil (ps : List (Nat × Nat)) (n : Nat) (rows : List RowP) : qX M R W rd Q [] ps n rows t f h = (yN rows ps ∧ footP R W n rows ∧ GO M R W rd Q t ⟨f.tm, f.mks⟩ h) := rfl
theorem kK (d : Option Tmp) (op : Op) (ho : isCall op = false) (l : List LO) (ps : List (Nat × Nat)) (n : Nat) (rows : List RowP) : qX M R W rd Q (⟨d, op, none⟩ :: l) ps n rows t f h = qV M.P f.tm h op fun v h' R' W' => qX M R W rd Q l ps n (rows ++ [⟨R', W', h.n, h'.n⟩]) t ⟨f.tm.put d v, f.mks⟩ h' := by
 show (match isCall op with | false => _ | true => _) = _
 rw [ho]; rfl
theorem grows_move (d : Option Tmp) (x : Operand) (l : List LO) (ps : List (Nat × Nat)) (n : Nat) (rows : List RowP) : qX M R W rd Q (⟨d, .move x, none⟩ :: l) ps n rows t f h = qV M.P f.tm h (.move x) fun v h' R' W' => qX M R W rd Q l ps n (rows ++ [⟨R', W', h.n, h'.n⟩]) t ⟨f.tm.put d v, f.mks⟩ h' := kK R W rd Q t f h d _ rfl l ps n rows
theorem grows_assign (d : Option Tmp) (x : Operand) (l : List LO) (ps : List (Nat × Nat)) (n : Nat) (rows : List RowP) : qX M R W rd Q (⟨d, .assign x, none⟩ :: l) ps n rows t f h = qV M.P f.tm h (.assign x) fun v h' R' W' => qX M R W rd Q l ps n (rows ++ [⟨R', W', h.n, h'.n⟩]) t ⟨f.tm.put d v, f.mks⟩ h' := kK R W rd Q t f h d _ rfl l ps n rows
theorem grows_pick (d : Option Tmp) (c a b : Operand) (l : List LO) (ps : List (Nat × Nat)) (n : Nat) (rows : List RowP) : qX M R W rd Q (⟨d, .pick c a b, none⟩ :: l) ps n rows t f h = qV M.P f.tm h (.pick c a b) fun v h' R' W' => qX M R W rd Q l ps n (rows ++ [⟨R', W', h.n, h'.n⟩]) t ⟨f.tm.put d v, f.mks⟩ h' := kK R W rd Q t f h d _ rfl l ps n rows
theorem grows_alloc (d : Option Tmp) (e : TypeId) (l : List LO) (ps : List (Nat × Nat)) (n : Nat) (rows : List RowP) : qX M R W rd Q (⟨d, .alloc e, none⟩ :: l) ps n rows t f h = qV M.P f.tm h (.alloc e) fun v h' R' W' => qX M R W rd Q l ps n (rows ++ [⟨R', W', h.n, h'.n⟩]) t ⟨f.tm.put d v, f.mks⟩ h' := kK R W rd Q t f h d _ rfl l ps n rows
theorem grows_box (d : Option Tmp) (e : TypeId) (x : Operand) (l : List LO) (ps : List (Nat × Nat)) (n : Nat) (rows : List RowP) : qX M R W rd Q (⟨d, .box e x, none⟩ :: l) ps n rows t f h = qV M.P f.tm h (.box e x) fun v h' R' W' => qX M R W rd Q l ps n (rows ++ [⟨R', W', h.n, h'.n⟩]) t ⟨f.tm.put d v, f.mks⟩ h' := kK R W rd Q t f h d _ rfl l ps n rows
theorem grows_build (d : Option Tmp) (e : TypeId) (p : Array (Nat × Operand)) (l : List LO) (ps : List (Nat × Nat)) (n : Nat) (rows : List RowP) : qX M R W rd Q (⟨d, .build e p, none⟩ :: l) ps n rows t f h = qV M.P f.tm h (.build e p) fun v h' R' W' => qX M R W rd Q l ps n (rows ++ [⟨R', W', h.n, h'.n⟩]) t ⟨f.tm.put d v, f.mks⟩ h' := kK R W rd Q t f h d _ rfl l ps n rows
theorem grows_buildSlice (d : Option Tmp) (e : TypeId) (k : Nat) (p : Array (Nat × Operand)) (l : List LO) (ps : List (Nat × Nat)) (n : Nat) (rows : List RowP) : qX M R W rd Q (⟨d, .buildSlice e k p, none⟩ :: l) ps n rows t f h = qV M.P f.tm h (.buildSlice e k p) fun v h' R' W' => qX M R W rd Q l ps n (rows ++ [⟨R', W', h.n, h'.n⟩]) t ⟨f.tm.put d v, f.mks⟩ h' := kK R W rd Q t f h d _ rfl l ps n rows
theorem grows_load (d : Option Tmp) (e : TypeId) (x : Operand) (l : List LO) (ps : List (Nat × Nat)) (n : Nat) (rows : List RowP) : qX M R W rd Q (⟨d, .load e x, none⟩ :: l) ps n rows t f h = qV M.P f.tm h (.load e x) fun v h' R' W' => qX M R W rd Q l ps n (rows ++ [⟨R', W', h.n, h'.n⟩]) t ⟨f.tm.put d v, f.mks⟩ h' := kK R W rd Q t f h d _ rfl l ps n rows
theorem grows_store (d : Option Tmp) (e : TypeId) (x y : Operand) (l : List LO) (ps : List (Nat × Nat)) (n : Nat) (rows : List RowP) : qX M R W rd Q (⟨d, .store e x y, none⟩ :: l) ps n rows t f h = qV M.P f.tm h (.store e x y) fun v h' R' W' => qX M R W rd Q l ps n (rows ++ [⟨R', W', h.n, h'.n⟩]) t ⟨f.tm.put d v, f.mks⟩ h' := kK R W rd Q t f h d _ rfl l ps n rows
theorem grows_nilCheck (d : Option Tmp) (x : Operand) (l : List LO) (ps : List (Nat × Nat)) (n : Nat) (rows : List RowP) : qX M R W rd Q (⟨d, .nilCheck x, none⟩ :: l) ps n rows t f h = qV M.P f.tm h (.nilCheck x) fun v h' R' W' => qX M R W rd Q l ps n (rows ++ [⟨R', W', h.n, h'.n⟩]) t ⟨f.tm.put d v, f.mks⟩ h' := kK R W rd Q t f h d _ rfl l ps n rows
theorem grows_binOp (d : Option Tmp) (b : BinOp) (e : TypeId) (x y : Operand) (e' : TypeId) (l : List LO) (ps : List (Nat × Nat)) (n : Nat) (rows : List RowP) : qX M R W rd Q (⟨d, .binOp b e x y e', none⟩ :: l) ps n rows t f h = qV M.P f.tm h (.binOp b e x y e') fun v h' R' W' => qX M R W rd Q l ps n (rows ++ [⟨R', W', h.n, h'.n⟩]) t ⟨f.tm.put d v, f.mks⟩ h' := kK R W rd Q t f h d _ rfl l ps n rows
theorem grows_unOp (d : Option Tmp) (b : UnOp) (e : TypeId) (x : Operand) (l : List LO) (ps : List (Nat × Nat)) (n : Nat) (rows : List RowP) : qX M R W rd Q (⟨d, .unOp b e x, none⟩ :: l) ps n rows t f h = qV M.P f.tm h (.unOp b e x) fun v h' R' W' => qX M R W rd Q l ps n (rows ++ [⟨R', W', h.n, h'.n⟩]) t ⟨f.tm.put d v, f.mks⟩ h' := kK R W rd Q t f h d _ rfl l ps n rows
theorem grows_convert (d : Option Tmp) (e e' : TypeId) (x : Operand) (l : List LO) (ps : List (Nat × Nat)) (n : Nat) (rows : List RowP) : qX M R W rd Q (⟨d, .convert e e' x, none⟩ :: l) ps n rows t f h = qV M.P f.tm h (.convert e e' x) fun v h' R' W' => qX M R W rd Q l ps n (rows ++ [⟨R', W', h.n, h'.n⟩]) t ⟨f.tm.put d v, f.mks⟩ h' := kK R W rd Q t f h d _ rfl l ps n rows
theorem grows_sliceToArrayPointer (d : Option Tmp) (e : TypeId) (x : Operand) (l : List LO) (ps : List (Nat × Nat)) (n : Nat) (rows : List RowP) : qX M R W rd Q (⟨d, .sliceToArrayPointer e x, none⟩ :: l) ps n rows t f h = qV M.P f.tm h (.sliceToArrayPointer e x) fun v h' R' W' => qX M R W rd Q l ps n (rows ++ [⟨R', W', h.n, h'.n⟩]) t ⟨f.tm.put d v, f.mks⟩ h' := kK R W rd Q t f h d _ rfl l ps n rows
theorem grows_makeMap (d : Option Tmp) (e : TypeId) (x : Option Operand) (l : List LO) (ps : List (Nat × Nat)) (n : Nat) (rows : List RowP) : qX M R W rd Q (⟨d, .makeMap e x, none⟩ :: l) ps n rows t f h = qV M.P f.tm h (.makeMap e x) fun v h' R' W' => qX M R W rd Q l ps n (rows ++ [⟨R', W', h.n, h'.n⟩]) t ⟨f.tm.put d v, f.mks⟩ h' := kK R W rd Q t f h d _ rfl l ps n rows
theorem grows_makeSlice (d : Option Tmp) (e : TypeId) (x y : Operand) (l : List LO) (ps : List (Nat × Nat)) (n : Nat) (rows : List RowP) : qX M R W rd Q (⟨d, .makeSlice e x y, none⟩ :: l) ps n rows t f h = qV M.P f.tm h (.makeSlice e x y) fun v h' R' W' => qX M R W rd Q l ps n (rows ++ [⟨R', W', h.n, h'.n⟩]) t ⟨f.tm.put d v, f.mks⟩ h' := kK R W rd Q t f h d _ rfl l ps n rows
theorem grows_slice (d : Option Tmp) (e : TypeId) (x : Operand) (a b c : Option Operand) (l : List LO) (ps : List (Nat × Nat)) (n : Nat) (rows : List RowP) : qX M R W rd Q (⟨d, .slice e x a b c, none⟩ :: l) ps n rows t f h = qV M.P f.tm h (.slice e x a b c) fun v h' R' W' => qX M R W rd Q l ps n (rows ++ [⟨R', W', h.n, h'.n⟩]) t ⟨f.tm.put d v, f.mks⟩ h' := kK R W rd Q t f h d _ rfl l ps n rows
theorem grows_fieldAddr (d : Option Tmp) (e : TypeId) (x : Operand) (k : Nat) (l : List LO) (ps : List (Nat × Nat)) (n : Nat) (rows : List RowP) : qX M R W rd Q (⟨d, .fieldAddr e x k, none⟩ :: l) ps n rows t f h = qV M.P f.tm h (.fieldAddr e x k) fun v h' R' W' => qX M R W rd Q l ps n (rows ++ [⟨R', W', h.n, h'.n⟩]) t ⟨f.tm.put d v, f.mks⟩ h' := kK R W rd Q t f h d _ rfl l ps n rows
theorem grows_indexAddr (d : Option Tmp) (e : TypeId) (x y : Operand) (l : List LO) (ps : List (Nat × Nat)) (n : Nat) (rows : List RowP) : qX M R W rd Q (⟨d, .indexAddr e x y, none⟩ :: l) ps n rows t f h = qV M.P f.tm h (.indexAddr e x y) fun v h' R' W' => qX M R W rd Q l ps n (rows ++ [⟨R', W', h.n, h'.n⟩]) t ⟨f.tm.put d v, f.mks⟩ h' := kK R W rd Q t f h d _ rfl l ps n rows
theorem grows_lookup (d : Option Tmp) (e : TypeId) (x y : Operand) (b : Bool) (l : List LO) (ps : List (Nat × Nat)) (n : Nat) (rows : List RowP) : qX M R W rd Q (⟨d, .lookup e x y b, none⟩ :: l) ps n rows t f h = qV M.P f.tm h (.lookup e x y b) fun v h' R' W' => qX M R W rd Q l ps n (rows ++ [⟨R', W', h.n, h'.n⟩]) t ⟨f.tm.put d v, f.mks⟩ h' := kK R W rd Q t f h d _ rfl l ps n rows
theorem grows_mapUpdate (d : Option Tmp) (e : TypeId) (x y z : Operand) (l : List LO) (ps : List (Nat × Nat)) (n : Nat) (rows : List RowP) : qX M R W rd Q (⟨d, .mapUpdate e x y z, none⟩ :: l) ps n rows t f h = qV M.P f.tm h (.mapUpdate e x y z) fun v h' R' W' => qX M R W rd Q l ps n (rows ++ [⟨R', W', h.n, h'.n⟩]) t ⟨f.tm.put d v, f.mks⟩ h' := kK R W rd Q t f h d _ rfl l ps n rows
theorem grows_extract (d : Option Tmp) (x : Operand) (k : Nat) (l : List LO) (ps : List (Nat × Nat)) (n : Nat) (rows : List RowP) : qX M R W rd Q (⟨d, .extract x k, none⟩ :: l) ps n rows t f h = qV M.P f.tm h (.extract x k) fun v h' R' W' => qX M R W rd Q l ps n (rows ++ [⟨R', W', h.n, h'.n⟩]) t ⟨f.tm.put d v, f.mks⟩ h' := kK R W rd Q t f h d _ rfl l ps n rows
theorem grows_builtin (d : Option Tmp) (b : Builtin) (args : Array Operand) (ts : Array TypeId) (l : List LO) (ps : List (Nat × Nat)) (n : Nat) (rows : List RowP) : qX M R W rd Q (⟨d, .call ⟨.builtin b, args, ts⟩, none⟩ :: l) ps n rows t f h = qV M.P f.tm h (.call ⟨.builtin b, args, ts⟩) fun v h' R' W' => qX M R W rd Q l ps n (rows ++ [⟨R', W', h.n, h'.n⟩]) t ⟨f.tm.put d v, f.mks⟩ h' := kK R W rd Q t f h d _ rfl l ps n rows
theorem grows_guard (d : Option Tmp) (op : Op) (tt : Tmp) (want : Bool) (l : List LO) (ps : List (Nat × Nat)) (n : Nat) (rows : List RowP) : qX M R W rd Q (⟨d, op, some (tt, want)⟩ :: l) ps n rows t f h = match wantL f.tm (some (tt, want)) with
  | some true => qX M R W rd Q (⟨d, op, none⟩ :: l) ps n rows t f h
  | some false => qX M R W rd Q l ps n (rows ++ [⟨fun _ => False, fun _ => False, h.n, h.n⟩]) t ⟨f.tm.put d qE, f.mks⟩ h
  | none => False := rfl
theorem grows_call (d : Option Tmp) (g : FuncId) (args : Array Operand) (ts : Array TypeId) (l : List LO) (ps : List (Nat × Nat)) (n : Nat) (rows : List RowP) : qX M R W rd Q (⟨d, .call ⟨.value (.func g), args, ts⟩, none⟩ :: l) ps n rows t f h = match kY f.tm args.toList with
  | some vs => callable M.P g = true ∧ qN M R W rd Q g vs d l ps n rows t f h
  | none => False := by
 show (qV M.P f.tm h _ _ ∨ LDem M R W ps n rows f.tm h _ _) = _
 rw [LOpD_call]
 simp only [LDem, SDem]
 cases hv : kY f.tm args.toList with
 | none =>
  refine propext ⟨fun z => z.elim (fun z => z) fun ⟨_, _, R', W', _, _, h5⟩ => ?_, fun z => z.elim⟩
  change LOp M R' W' f.tm h (.call ⟨.value (.func g), args, ts⟩) _ at h5
  rw [LOp_call, hv] at h5
  exact h5
 | some vs =>
  refine propext ⟨fun z => z.elim (fun z => ⟨z.1, .inl z.2⟩) fun ⟨h1, h2, R', W', h3, h4, h5⟩ => ?_, fun ⟨hc, z⟩ => z.imp (fun z => ⟨hc, z⟩) fun ⟨h1, h2, R', W', h3, h4, h5⟩ => ⟨h1, h2, R', W', h3, h4, ?_⟩⟩
  ·change LOp M R' W' f.tm h (.call ⟨.value (.func g), args, ts⟩) _ at h5
   rw [LOp_call, hv] at h5
   exact ⟨h5.1, .inr ⟨h1, h2, R', W', h3, h4, h5.2⟩⟩
  ·change LOp M R' W' f.tm h (.call ⟨.value (.func g), args, ts⟩) _
   rw [LOp_call, hv]
   exact ⟨hc, h5⟩
end
attribute [go_sem ↓] go_nil go_seq go_ops go_skip go_block go_blk go_cond go_loop go_range go_exit go_ret go_ops_nil go_ops_cons go_ops_guard resume_exit_nil resume_exit_code resume_exit_blk resume_ret go_draw grows_nil grows_move grows_assign grows_pick grows_alloc grows_box grows_build grows_buildSlice grows_load grows_store grows_nilCheck grows_binOp grows_unOp grows_convert grows_sliceToArrayPointer grows_makeMap grows_makeSlice grows_slice grows_fieldAddr grows_indexAddr grows_lookup grows_mapUpdate grows_extract grows_builtin grows_guard
attribute [go_sem ↓ high] go_call go_callv grows_call

theorem qK.of {R W : Set'} {rd : Option Nat} {Q : Ex → Fr → Heap → Prop} {g : FuncId} {vs : List V} {d : Option Tmp} {l : List LO} {t : List It} {f : Fr} {h : Heap} {K : V → Heap → Prop} (hc : SF M g vs h R W K) (hk : ∀ v h', K v h' → GO M R W rd Q (.ops l :: t) ⟨f.tm.put d v, f.mks⟩ h') : qK M R W rd Q g vs d l t f h := hc.mono hk
theorem qN.of {R W R' W' : Set'} {rd : Option Nat} {Q : Ex → Fr → Heap → Prop} {g : FuncId} {vs : List V} {d : Option Tmp} {l : List LO} {ps : List (Nat × Nat)} {n : Nat} {rows : List RowP} {t : List It} {f : Fr} {h : Heap} {K : V → Heap → Prop} (hc : SF (M.P : MP) g vs h R' W' K)
  (hk : ∀ v h', K v h' → qX M R W rd Q l ps n (rows ++ [⟨R', W', h.n, h'.n⟩]) t ⟨f.tm.put d v, f.mks⟩ h') : qN M R W rd Q g vs d l ps n rows t f h := .inl ⟨R', W', hc.mono hk⟩
def Fin (M : MP) (R W : Set') (rs : List ResultVar) (Q : V → Heap → Prop) (e : Ex) (f : Fr) (h : Heap) : Prop := match e with
 | .exit _ => False
 | _ => takeH W f.mks h fun h2 => match yA M.P f.tm h2 rs with
  | some (vs, rr) => allB R rr ∧ Q (retV vs) h2
  | none => False
theorem fin_ret (R W : Set') (rs : List ResultVar) (Q : V → Heap → Prop) (tm : Tm) (h : Heap) : Fin M R W rs Q .ret ⟨tm, []⟩ h = match yA M.P tm h rs with
  | some (vs, rr) => allB R rr ∧ Q (retV vs) h
  | none => False := rfl
theorem fin_norm (R W : Set') (rs : List ResultVar) (Q : V → Heap → Prop) (tm : Tm) (h : Heap) : Fin M R W rs Q .norm ⟨tm, []⟩ h = match yA M.P tm h rs with
  | some (vs, rr) => allB R rr ∧ Q (retV vs) h
  | none => False := rfl
theorem fin_ret_marks (R W : Set') (rs : List ResultVar) (Q : V → Heap → Prop) (tm : Tm) (b : Nat) (bs : List Nat) (h : Heap) : Fin M R W rs Q .ret ⟨tm, b :: bs⟩ h = takeH W (b :: bs) h fun h2 => match yA M.P tm h2 rs with
  | some (vs, rr) => allB R rr ∧ Q (retV vs) h2
  | none => False := rfl
theorem fin_norm_marks (R W : Set') (rs : List ResultVar) (Q : V → Heap → Prop) (tm : Tm) (b : Nat) (bs : List Nat) (h : Heap) : Fin M R W rs Q .norm ⟨tm, b :: bs⟩ h = takeH W (b :: bs) h fun h2 => match yA M.P tm h2 rs with
  | some (vs, rr) => allB R rr ∧ Q (retV vs) h2
  | none => False := rfl
attribute [go_sem ↓] fin_ret fin_norm fin_ret_marks fin_norm_marks
theorem SF.go (hm : M.P.follows .mixedOrders = true) {f : FuncId} {fn : Func} {args : List V} {h : Heap} {R W : Set'} {Q : V → Heap → Prop} {ir : LC} {n : Nat} {rs : List ResultVar} (hf : M.P.funcs[f]? = some fn)
  (hir : (fn.body.map Vm.low, fn.ntmps, fn.results.toList) = (some ir, n, rs))
  (hs : GO M (fun b => h.n ≤ b ∨ R b) (fun b => h.n ≤ b ∨ W b) none (Fin M (fun b => h.n ≤ b ∨ R b) (fun b => h.n ≤ b ∨ W b) rs Q) [.code ir] ⟨initTm n args, []⟩ h) : SF M f args h R W Q :=
 SF.low hm hf hir hs
theorem kE.inv (hm : M.P.follows .mixedOrders = true) {R W : Set'} {rd : Option Nat} {c : LC} {t : List It} {Q : Ex → Fr → Heap → Prop} (I : Nat → Fr → Heap → Prop) (k : Nat) {f : Fr} {h : Heap} (h0 : I k f h)
  (hI : ∀ k f h, I k f h → GO M R W rd (fun e f' h' => match e with
   | .norm => ∃ k', k' < k ∧ I k' f' h'
   | .exit id => resume M R W rd Q t (.exit id) f' h'
   | .ret => Q .ret f' h') [.code c] f h) : kE M R W rd Q c t f h := by
 intro c' hc
 refine SL.low hm hc I (fun k f h hi => ?_) k f h h0
 have := hI k f h hi
 have e : (fun e f' h' => match e with
   | .norm => ∃ k', k' < k ∧ I k' f' h'
   | .exit id => resume M R W rd Q t (.exit id) f' h'
   | .ret => Q .ret f' h') = Ex.next (fun f' h' => ∃ k', k' < k ∧ I k' f' h') (resume M R W rd Q t) := by
  funext e f' h'
  cases e
  ·rfl
  ·rfl
  ·exact (resume_ret R W rd Q t f' h').symm
 rw [e] at this
 exact this

theorem yH.outer {R W : Set'} {Q : Ex → Fr → Heap → Prop} {g : Operand} {ps : Array Tmp} {a b : Code} {t : List It} {f : Fr} {h : Heap} {k : FuncId} {xs ys : List V} (hg : evV f.tm g = some (.func k xs ys)) (hc : callable M.P k = true)
  (hs : SF M k ((xs ++ [.yield (h.n + 1)]) ++ ys) ((h.push (.deferred true)).push (.loop ⟨.ready, none, f.tm, ps.toList, a, b, h.n⟩)) R W fun _ h2 => ∃ lv, h2.get (h.n + 1) = some (.loop lv) ∧ lv.state ≠ .busy ∧ W (h.n + 1) ∧
   (match lv.pending with
   | none => GO M R W none Q t ⟨f.tm, h.n :: f.mks⟩ (h2.set (h.n + 1) (.loop { lv with state := .exhausted }))
   | some .ret => Q .ret ⟨f.tm, h.n :: f.mks⟩ (h2.set (h.n + 1) (.loop { lv with state := .exhausted }))
   | some (.exit id) => resume M R W none Q t (.exit id) ⟨f.tm, h.n :: f.mks⟩ (h2.set (h.n + 1) (.loop { lv with state := .exhausted }))
   | _ => False)) : yH M R W none Q g ps a b t f h := by
 unfold yH xZ
 rw [hg]
 refine ⟨hc, hs.mono fun v h2 ⟨lv, h1, h2', h3, h4⟩ => ?_⟩
 unfold SEnd
 rw [h1]
 refine ⟨h2', h3, ?_⟩
 split at h4
 ·rename_i hp; simp only [hp] at h4 ⊢; exact h4
 ·rename_i hp; simp only [hp, resume_ret] at h4 ⊢; exact h4
 ·rename_i id hp; simp only [hp] at h4 ⊢; exact h4
 ·exact h4.elim
theorem GYield.of {R W : Set'} {rd : Option Nat} {Q : Ex → Fr → Heap → Prop} {y : Nat} {vs : List V} {d : Option Tmp} {l : List LO} {t : List It} {f : Fr} {h : Heap} {K : V → Heap → Prop} (hc : SY M y vs h R W K) (hk : ∀ v h', K v h' → GO M R W rd Q (.ops l :: t) ⟨f.tm.put d v, f.mks⟩ h') : GYield M R W rd Q y vs d l t f h := hc.mono hk
theorem SY.go {P : Program} (hm : P.follows .mixedOrders = true) {l : Nat} {args : List V} {h : Heap} {R W : Set'} {Q : V → Heap → Prop} {lv : Loopv} {tm : Tm} {ca cb : LC} (hg : h.get l = some (.loop lv)) (hR : R l) (hW : W l)
  (htm : setPs lv.tmps lv.params args = some tm) (ha : Vm.low lv.assign = ca) (hb : Vm.low lv.body = cb)
  (hs : GO ⟨P, true⟩ R W (some l) (fun e f1 h1 => e = .norm ∧ ∃ lv1, h1.get l = some (.loop lv1) ∧ lv1.state = .ready ∧ GO ⟨P, true⟩ R W (some l) (fun e f2 h2 => ∃ lv2, h2.get l = some (.loop lv2) ∧ Q (.bool e.jump.isNone) (h2.set l (.loop { lv2 with state := if e.jump.isNone then .ready else .done, pending := e.jump })))
   [.code cb] f1 (h1.set l (.loop { lv1 with state := .busy }))) [.code ca] ⟨tm, []⟩ h) : SY ⟨P, true⟩ l args h R W Q := by
 subst ha hb
 refine SY.of_body hm hg hR hW htm (LS_S lv.assign _ _ _ _ ?_ hs)
 rintro e f1 h1 ⟨rfl, lv1, h2, h3, h4⟩
 exact ⟨rfl, lv1, h2, h3, LS_S lv.body _ _ _ _ (fun _ _ _ hq => hq) h4⟩
attribute [irreducible] GO resume qK GYield kE yH qX qN Fin
end Go.Vm
namespace Go.Vm
structure LSt where
 ls : List LC
 rs : List (Code × Code)
 ol : List LC
 oa : List LC
 ob : List LC
def lowS : Code → LSt → LC × LSt
 | .seq a b, s => match lowS a s with
  | (x, s1) => match lowS b s1 with
   | (y, s2) => (.seq x y, s2)
 | .cond c a b, s => match lowS a s with
  | (x, s1) => match lowS b s1 with
   | (y, s2) => (.cond c x y, s2)
 | .block id c, s => match lowS c s with
  | (x, s1) => (.block id x, s1)
 | .scope c, s => lowS c s
 | .loop c, s => match lowS c s with
  | (x, ⟨ls, rs, ol, oa, ob⟩) => match ls with
   | [] => (.loop x, ⟨[], rs, ol ++ [x], oa, ob⟩)
   | l :: r => (.loop l, ⟨r, rs, ol ++ [x], oa, ob⟩)
 | .rangeFunc g ps a b, ⟨ls, rs, ol, oa, ob⟩ => match rs with
  | [] => (.range g ps a b, ⟨ls, [], ol, oa, ob⟩)
  | p :: t => match lowS a ⟨ls, t, ol, oa, ob⟩ with
   | (x, s1) => match lowS b s1 with
    | (y, ⟨ls, rs, ol, oa, ob⟩) => (.range g ps p.1 p.2, ⟨ls, rs, ol, oa ++ [x], ob ++ [y]⟩)
 | c, s => (low c, s)
def lowF (f : Func) (ls : List LC) (rs : List (Code × Code)) : LC × LSt := match f.body with
 | some c => lowS c ⟨ls, rs, [], [], []⟩
 | none => (.bad, ⟨[], [], [], [], []⟩)
def nthC : List LC → Nat → LC
 | [], _ => .bad
 | a :: _, 0 => a
 | _ :: r, i + 1 => nthC r i
def ir0 (f : Func) (ls : List LC) (rs : List (Code × Code)) : LC := (lowF f ls rs).1
def irl (f : Func) (ls : List LC) (rs : List (Code × Code)) (i : Nat) : LC := nthC (lowF f ls rs).2.ol i
def ira (f : Func) (ls : List LC) (rs : List (Code × Code)) (i : Nat) : LC := nthC (lowF f ls rs).2.oa i
def irb (f : Func) (ls : List LC) (rs : List (Code × Code)) (i : Nat) : LC := nthC (lowF f ls rs).2.ob i
def atP : LC → List Nat → LC
 | .seq a b, i :: r => match i with
  | 0 => atP a r
  | _ => atP b r
 | .cond _ a b, i :: r => match i with
  | 0 => atP a r
  | _ => atP b r
 | .block _ c, _ :: r => atP c r
 | c, _ => c
def jX : LC → List Nat → LC → LC
 | .seq a b, i :: r, x => match i with
  | 0 => .seq (jX a r x) b
  | _ => .seq a (jX b r x)
 | .cond c a b, i :: r, x => match i with
  | 0 => .cond c (jX a r x) b
  | _ => .cond c a (jX b r x)
 | .block n c, _ :: r, x => .block n (jX c r x)
 | _, _, x => x
theorem mk_arr {α : Type} (l : List α) : Array.mk l = l.toArray := rfl
def pk {α : Type} (f g : α) (_ : f = g := by conv => lhs; reduce; try simp only [Int.reduceOfNat, mk_arr]) : α := g
theorem pk_eq {α : Type} (f g : α) (h : f = g) : pk f g h = g := rfl
attribute [go_sem ↓] pk_eq
def rcs (f : Func) (i : Nat) : Code × Code := (((f.body.map rangesOf).getD [])[i]?).getD (.skip, .skip)
abbrev IrV (f : Func) : Option LC × Nat × List ResultVar := (f.body.map low, f.ntmps, f.results.toList)
end Go.Vm
set_option linter.unusedVariables false
namespace Go.Vm
variable {P : Program} {M : MP}

theorem bneI (a b : Int) : (a != b) = !(a == b) := rfl
theorem ble_succ (a b : Nat) : Nat.ble (a + 1) b = Nat.blt a b := rfl
attribute [go_sem] bneI ble_succ
attribute [go_sem] Tr.get_put
theorem foot_nil (n : Nat) (X : Nat → Prop) : (∀ b, b < n → b ∈ ([] : List Nat) → X b) = True := eq_true fun _ _ h => by cases h
theorem foot_one (n x : Nat) (X : Nat → Prop) : (∀ b, b < n → b ∈ [x] → X b) = (x < n → X x) := propext ⟨fun h hx => h x hx (List.mem_singleton.2 rfl), fun h b hb hm => by rw [List.mem_singleton.1 hm] at hb ⊢; exact h hb⟩
attribute [go_sem ↓] foot_nil foot_one
theorem Heap.lt_of_get {h : Heap} {b : Nat} {o : O} (e : h.get b = some o) : b < h.n := by
 rcases Nat.lt_or_ge b h.n with h' | h'
 ·exact h'
 ·rw [Heap.get, yD (Nat.not_lt.2 h')] at e; cases e
end Go.Vm
set_option linter.unusedVariables false
namespace Go.Vm
variable {P : Program}

structure EntsOk (es : kQ) (clock : Nat) : Prop where
 nodup : (es.map (·.2.2)).Nodup
 lt : ∀ e ∈ es, e.2.2 < clock
theorem EntsOk.nil : EntsOk [] 0 := ⟨by simp, by simp⟩
theorem EntsOk.push {es : kQ} {c : Nat} (h : EntsOk es c) (k v : V) : EntsOk (es ++ [(k, v, c)]) (c + 1) := by
 refine ⟨?_, fun e he => ?_⟩
 ·rw [List.map_append, List.nodup_append]
  refine ⟨h.nodup, by simp, fun a ha b hb => ?_⟩
  simp at hb; subst hb
  obtain ⟨e, he, rfl⟩ := List.mem_map.1 ha
  have := h.lt e he; omega
 ·rcases List.mem_append.1 he with h' | h'
  ·have := h.lt e h'; omega
  ·simp at h'; subst h'; simp
theorem EntsOk.set {es : kQ} {c : Nat} (h : EntsOk es c) {i : Nat} {e : V × V × Nat} (hi : es[i]? = some e) (k v : V) : EntsOk (es.set i (k, v, e.2.2)) c := by
 have hm : (es.set i (k, v, e.2.2)).map (·.2.2) = es.map (·.2.2) := by
  rw [List.map_set]
  apply List.ext_getElem?
  intro j
  rw [List.getElem?_set]
  by_cases hj : i = j
  ·subst hj
   have hl : i < es.length := (List.getElem?_eq_some_iff.1 hi).1
   rw [if_pos rfl, if_pos (by simpa using hl), List.getElem?_map, hi]; rfl
  ·rw [if_neg hj]
 refine ⟨by rw [hm]; exact h.nodup, fun e' he' => ?_⟩
 rcases List.mem_or_eq_of_mem_set he' with h' | h'
 ·exact h.lt e' h'
 ·subst h'; exact h.lt e (List.mem_of_getElem? hi)
theorem EntsOk.erase {es : kQ} {c : Nat} (h : EntsOk es c) (i : Nat) : EntsOk (es.eraseIdx i) c := by
 refine ⟨?_, fun e he => h.lt e (List.mem_of_mem_eraseIdx he)⟩
 rw [← map_eraseIdx]
 exact h.nodup.sublist (List.eraseIdx_sublist _ _)

theorem nodup_of_map {α β : Type} {f : α → β} : ∀ {l : List α}, (l.map f).Nodup → l.Nodup
 | [], _ => by simp
 | a :: l, h => by
  rw [List.map_cons, List.nodup_cons] at h
  rw [List.nodup_cons]
  exact ⟨fun ha => h.1 (List.mem_map.2 ⟨a, ha, rfl⟩), nodup_of_map h.2⟩
theorem nodup_inj {α β : Type} {f : α → β} : ∀ {l : List α}, (l.map f).Nodup → ∀ {a b : α}, a ∈ l → b ∈ l → f a = f b → a = b
 | [], _, a, b, ha, _, _ => by cases ha
 | x :: l, h, a, b, ha, hb, e => by
  rw [List.map_cons, List.nodup_cons] at h
  rcases List.mem_cons.1 ha with rfl | ha
  ·rcases List.mem_cons.1 hb with rfl | hb
   ·rfl
   ·exact absurd (List.mem_map.2 ⟨b, hb, e.symm⟩) h.1
  ·rcases List.mem_cons.1 hb with h' | hb
   ·exact absurd (List.mem_map.2 ⟨a, ha, e.trans (by rw [h'])⟩) h.1
   ·exact nodup_inj h.2 ha hb e
theorem nodup_length : ∀ {l m : List Nat}, l.Nodup → (∀ a ∈ l, a ∈ m) → l.length ≤ m.length
 | [], m, _, _ => Nat.zero_le _
 | a :: l, m, h, hs => by
  rw [List.nodup_cons] at h
  have ha := hs a (by simp)
  have := nodup_length (l := l) (m := m.erase a) h.2 fun b hb => (List.mem_erase_of_ne (fun e => by subst e; exact h.1 hb)).2 (hs b (by simp [hb]))
  rw [List.length_erase_of_mem ha] at this
  have := List.length_pos_of_mem ha
  simp; omega
structure Seen (es : kQ) (seen : List Nat) (l : kQ) : Prop where
 stamps : l.map (·.2.2) = seen
 sub : ∀ e ∈ l, e ∈ es
 nodup : seen.Nodup
theorem Seen.nil (es : kQ) : Seen es [] [] := ⟨rfl, by simp, by simp⟩
theorem Seen.step {es l : kQ} {seen : List Nat} (h : Seen es seen l) {e : V × V × Nat} (he : e ∈ es) (hn : e.2.2 ∉ seen) : Seen es (seen ++ [e.2.2]) (l ++ [e]) := by
 refine ⟨by simp [h.stamps], fun x hx => ?_, ?_⟩
 ·rcases List.mem_append.1 hx with h' | h'
  ·exact h.sub x h'
  ·simp at h'; subst h'; exact he
 ·rw [List.nodup_append]
  refine ⟨h.nodup, by simp, fun a ha b hb => ?_⟩
  simp at hb; subst hb
  exact fun e => hn (e ▸ ha)
theorem Seen.nodup_l {es l : kQ} {seen : List Nat} (h : Seen es seen l) : l.Nodup := by
 have := h.nodup
 rw [← h.stamps] at this
 exact nodup_of_map this
theorem Seen.last {es l : kQ} {seen : List Nat} {c : Nat} (h : Seen es seen l) (hes : EntsOk es c) (hall : ∀ e ∈ es, e.2.2 ∈ seen) : l.Perm es := by
 have hd : es.Nodup := nodup_of_map hes.nodup
 have key : ∀ a, a ∈ l ↔ a ∈ es := by
  intro a
  refine ⟨h.sub a, fun ha => ?_⟩
  have := hall a ha
  rw [← h.stamps] at this
  obtain ⟨b, hb, hab⟩ := List.mem_map.1 this
  have hb' := h.sub b hb
  have : b = a := nodup_inj hes.nodup hb' ha hab
  exact this ▸ hb
 exact (List.perm_ext_iff_of_nodup h.nodup_l hd).2 key
theorem Seen.length {es l : kQ} {seen : List Nat} (h : Seen es seen l) : l.length ≤ es.length := by
 have := nodup_length (l := seen) (m := es.map (·.2.2)) h.nodup fun a ha => by
  rw [← h.stamps] at ha
  obtain ⟨e, he, rfl⟩ := List.mem_map.1 ha
  exact List.mem_map.2 ⟨e, h.sub e he, rfl⟩
 rw [← h.stamps] at this
 simpa using this

theorem find_stamp {es : kQ} {c : Nat} (h : EntsOk es c) {e : V × V × Nat} (he : e ∈ es) : es.find? (fun x => Nat.beq x.2.2 e.2.2) = some e := by
 cases hf : es.find? (fun x => Nat.beq x.2.2 e.2.2) with
 | none => have := List.find?_eq_none.1 hf e he; simp at this
 | some x =>
  have h1 := List.mem_of_find?_eq_some hf
  have h2 := List.find?_some hf
  have h3 := Nat.eq_of_beq_eq_true h2
  rw [nodup_inj h.nodup h1 he h3]

theorem entry_at {g : Heap} {b m since : Nat} {seen : List Nat} {es : kQ} {ck : Nat} {e : V × V × Nat} (hb : g.get b = some (.iter (some m) since (seen ++ [e.2.2]) ck)) (hm : g.get m = some (.map es ck)) (hok : EntsOk es ck) (he : e ∈ es) :
  entryV g b = some (.tuple [e.1, e.2.1], [b, m]) := by
 unfold entryV
 simp only [hb, List.getLast?_append, List.getLast?_singleton, Option.some_or, hm]
 rw [show Nat.beq ck ck = true by simp, find_stamp hok he]

end Go.Vm
set_option linter.unusedVariables false
namespace Go.Vm

theorem w_blt_t {a b : Nat} (h : a < b) : Nat.blt a b = true := blt_true h
theorem w_blt_f {a b : Nat} (h : b ≤ a) : Nat.blt a b = false := yD (by omega)
theorem qW {a b : Nat} (h : a ≤ b) : Nat.ble a b = true := by rw [Nat.ble_eq]; exact h
theorem w_ble_f {a b : Nat} (h : b < a) : Nat.ble a b = false := by
 cases hb : Nat.ble a b with
 | false => rfl
 | true => rw [Nat.ble_eq] at hb; omega
theorem zL {a b : Nat} (h : a = b) : Nat.beq a b = true := by subst h; simp
theorem w_beq_f {a b : Nat} (h : a ≠ b) : Nat.beq a b = false := by
 cases hb : Nat.beq a b with
 | false => rfl
 | true => exact absurd (Nat.eq_of_beq_eq_true hb) h
theorem w_ilt_t {a b : Int} (h : a < b) : decide (a < b) = true := decide_eq_true h
theorem w_ilt_f {a b : Int} (h : b ≤ a) : decide (a < b) = false := decide_eq_false (by omega)
theorem w_ile_t {a b : Int} (h : a ≤ b) : decide (a ≤ b) = true := decide_eq_true h
theorem w_ile_f {a b : Int} (h : b < a) : decide (a ≤ b) = false := decide_eq_false (by omega)
theorem w_ieq_t {a b : Int} (h : a = b) : (a == b) = true := by simpa using h
theorem w_ieq_f {a b : Int} (h : a ≠ b) : (a == b) = false := by simpa using h
theorem w_idx {α : Type} {i n : Int} (h0 : 0 ≤ i) (h1 : i < n) (v : α) (k : α → Prop) : onO (if 0 ≤ i ∧ i < n then some v else none) k = k v := by rw [if_pos ⟨h0, h1⟩]; rfl
theorem w_ite {α : Type} {i n : Int} (h0 : 0 ≤ i) (h1 : i < n) (a b : α) : (if 0 ≤ i ∧ i < n then a else b) = a := if_pos ⟨h0, h1⟩
theorem qH {h : Heap} {b : Nat} (e : b = h.n) (o : O) : (h.push o).get b = some o := by rw [Heap.yR, if_pos e]
theorem qC {h : Heap} {b : Nat} (e : b ≠ h.n) (o : O) : (h.push o).get b = h.get b := by rw [Heap.yR, if_neg e]
theorem qF {h : Heap} {b c : Nat} (hb : b < h.n) (e : c = b) (o : O) : (h.set b o).get c = some o := by rw [Heap.get_set h b c o hb, if_pos e]
theorem qB {h : Heap} {b c : Nat} (hb : b < h.n) (e : c ≠ b) (o : O) : (h.set b o).get c = h.get c := by rw [Heap.get_set h b c o hb, if_neg e]
theorem w_bset_eq {b : Blk} {i j : Nat} (e : j = i) (v : V) : (b.set i v).get j = v := by rw [Blk.get_set, if_pos e]
theorem w_bset_ne {b : Blk} {i j : Nat} (e : j ≠ i) (v : V) : (b.set i v).get j = b.get j := by rw [Blk.get_set, if_neg e]
theorem w_of_get {l : List V} {i : Nat} (h : i < l.length) : (Blk.of l).get i = l.getD i qE := Blk.get_of l i h
theorem jB (l : List V) : (Blk.of l).size = l.length := rfl
theorem w_rep_size (n : Nat) (l : List V) : (Blk.rep n l).size = n := rfl
theorem w_getD_zero (a : V) (l : List V) (d : V) : (a :: l).getD 0 d = a := rfl
theorem w_getD_succ (a : V) (l : List V) (i : Nat) (d : V) : (a :: l).getD (i + 1) d = l.getD i d := rfl
theorem w_gets_zero (b : Blk) (o : Nat) : b.gets o 0 = [] := rfl
theorem w_gets_succ (b : Blk) (o n : Nat) : b.gets o (n + 1) = b.get o :: b.gets (o + 1) n := rfl
theorem w_puts_nil (b : Blk) (o : Nat) : b.puts o [] = b := rfl
theorem w_puts_cons (b : Blk) (o : Nat) (v : V) (l : List V) : b.puts o (v :: l) = (b.set o v).puts (o + 1) l := rfl
theorem w_fill_nil (p : Nat → Option (Nat × Nat)) (c : List V) : zJ p c [] = some c := rfl
theorem w_fill_cons (p : Nat → Option (Nat × Nat)) (c : List V) (i : Nat) (v : V) (r : List (Nat × V)) : zJ p c ((i, v) :: r) = match p i with
  | none => none
  | some (off, size) => if v.qZ.length = size ∧ off + size ≤ c.length then zJ p (putL c off v.qZ) r else none := by
 cases h : p i with
 | none => simp [zJ, h]
 | some q => obtain ⟨a, b⟩ := q; simp [zJ, h]
theorem w_putL_nil (l : List V) (o : Nat) : putL l o [] = l := rfl
theorem w_putL_cons (l : List V) (o : Nat) (v : V) (r : List V) : putL l o (v :: r) = putL (l.set o v) (o + 1) r := rfl
theorem w_i64 {x : Int} (h1 : -9223372036854775808 ≤ x) (h2 : x ≤ 9223372036854775807) : IntKind.i64.wrap x = x := IntWalk.i64_in x (by omega)
theorem w_agg (c : List V) : (V.agg c).qZ = c := rfl
attribute [go_sem] jB w_rep_size Blk.size_set Blk.zT Blk.ro_of Blk.qY Blk.ro_puts Blk.yU Blk.jR w_getD_zero w_getD_succ w_gets_zero w_gets_succ w_puts_nil w_puts_cons w_fill_nil w_fill_cons w_putL_nil w_putL_cons w_agg List.set_cons_zero List.set_cons_succ Int.toNat_natCast Heap.qG Heap.n_set
end Go.Vm
set_option linter.unusedVariables false
namespace Go.Vm
variable {P : Program}

def apT (P : Program) (t u : TypeId) : Option (Nat × Nat × Nat) := match P.underlying t with
 | some (.slice e) => match P.info? e, zeroV P e, srcOk P u with
  | some i, some z, true => match Nat.beq z.qZ.length i.size with
   | true => some (e, i.size, i.bytes)
   | false => none
  | _, _, _ => none
 | _ => none
def appE (e size bytes : Nat) (s x : V) (h : Heap) : Option Pr := match s, xH x with
 | .slice base sLen sCap ex, some n => match kT h size n x with
  | some (news, rs) => match Nat.beq news.length (n * size) with
   | true => match Nat.ble (sLen + n) sCap with
    | true => xY h base sLen sCap ex size n news rs
    | false => match kT h size sLen s with
     | some (olds, rs') => match Nat.beq olds.length (sLen * size) with
      | true => match Nat.ble ((sLen + n) * bytes) 140737488355328 with
       | true => match Nat.ble (sLen + n) 9223372036854775807 with
        | true => yM h e base sCap ex size (sLen + n) olds news (rs ++ rs')
        | false => none
       | false => none
      | false => none
     | none => none
   | false => none
  | none => none
 | .esl a, some 0 => match kT h size 0 x with
  | some ([], rs) => some ⟨.esl a, h, rs, []⟩
  | _ => none
 | _, _ => none
theorem qU {t u e size bytes : Nat} (ht : apT P t u = some (e, size, bytes)) (s x : V) (h : Heap) : appendV P t u s x h = appE e size bytes s x h := by
 unfold apT at ht
 unfold appendV appE
 split at ht
 ·rename_i e' hu
  rw [hu]
  simp only []
  split at ht
  ·rename_i i z h1 h2 h3
   split at ht
   ·rename_i hz
    cases ht
    rw [h1, h2]
    simp only []
    cases s <;> try rfl
    case esl a =>
     simp only [appSrcV, h3]
     cases xH x with
     | none => rfl
     | some n =>
      simp only []
      cases n with
      | zero => cases kT h i.size 0 x with
       | none => rfl
       | some p =>
        obtain ⟨news, rs⟩ := p
        cases news <;> rfl
      | succ n => cases kT h i.size (n + 1) x with
       | none => rfl
       | some p => rfl
    rename_i base sLen sCap ex
    simp only [appSrcV, h3]
    cases xH x with
    | none => rfl
    | some n =>
     simp only []
     cases kT h i.size n x with
     | none => rfl
     | some p =>
      obtain ⟨news, rs⟩ := p
      simp only []
      cases Nat.beq news.length (n * i.size) with
      | false => rfl
      | true =>
       simp only []
       cases Nat.ble (sLen + n) sCap with
       | true => rfl
       | false =>
        simp only []
        cases kT h i.size sLen (.slice base sLen sCap ex) with
        | none => rfl
        | some q =>
         obtain ⟨olds, rs'⟩ := q
         simp only [hz]
         cases Nat.beq olds.length (sLen * i.size) with
         | false => rfl
         | true =>
          cases Nat.ble ((sLen + n) * i.bytes) 140737488355328 with
          | false => rfl
          | true => cases Nat.ble (sLen + n) 9223372036854775807 <;> rfl
   ·cases ht
  ·cases ht
 ·cases ht
theorem gets_of (l : List V) : ∀ (k : Nat), k ≤ l.length → ∀ o, o + k = l.length → (Blk.of l).gets o k = l.drop o
 | 0, _, o, h => by
  rw [List.drop_eq_nil_of_le (by omega)]; rfl
 | k + 1, hk, o, h => by
  rw [w_gets_succ, gets_of l k (by omega) (o + 1) (by omega), w_of_get (by omega), List.drop_eq_getElem_cons (i := o) (l := l) (by omega)]
  congr 1
  simp [List.getD, show o < l.length by omega]
theorem xK (l : List V) {n : Nat} (h : n = l.length) : (Blk.of l).gets 0 n = l := by subst h; rw [gets_of l _ (Nat.le_refl _) 0 (by omega)]; rfl
end Go.Vm
set_option linter.unusedVariables false
namespace Go.Vm
variable {P : Program}

def openB (w : World) (b : Nat) : Bool := match w.heap[b]? with
 | some (.cells _ _ _) => true
 | _ => false
def rn0 (w : World) : Ren := fun b => match openB w b with
 | true => some ⟨b, 0, 0⟩
 | false => none
def vOf1 (w : World) : Value → V
 | .bool b => .bool b
 | .int k n => .int k n
 | .string s => .str s
 | .slice none n c => .slice none n c true
 | .slice (some a) 0 0 => .esl a
 | .slice (some ⟨b, o, none⟩) n c => match openB w b with
  | true => .slice (some (b, o)) n c true
  | false => .raw (.slice (some ⟨b, o, none⟩) n c)
 | .pointer none => .ptr none
 | .pointer (some ⟨b, o, none⟩) => match openB w b with
  | true => .ptr (some (b, o))
  | false => .raw (.pointer (some ⟨b, o, none⟩))
 | x => .raw x
theorem rn0_is {w : World} {b : Nat} (h : openB w b = true) : rn0 w b = some ⟨b, 0, 0⟩ := by simp [rn0, h]
theorem vOf1_rel (w : World) (x : Value) : (vOf1 w x).on (rn0 w) ∧ (vOf1 w x).re (rn0 w) = x := by
 unfold vOf1
 split
 ·exact ⟨trivial, rfl⟩
 ·exact ⟨trivial, rfl⟩
 ·exact ⟨trivial, rfl⟩
 ·exact ⟨trivial, rfl⟩
 ·exact ⟨trivial, rfl⟩
 ·split
  ·rename_i h
   exact ⟨⟨_, rn0_is h⟩, by simp [V.re, reA, Ren.zY (rn0_is h), Ren.s_eq (rn0_is h)]⟩
  ·exact ⟨trivial, rfl⟩
 ·exact ⟨trivial, rfl⟩
 ·split
  ·rename_i h
   exact ⟨⟨_, rn0_is h⟩, by simp [V.re, reA, Ren.zY (rn0_is h), Ren.s_eq (rn0_is h)]⟩
  ·exact ⟨trivial, rfl⟩
 ·exact ⟨trivial, rfl⟩
def blkOf (w : World) (arr : Array Value) : Blk := { Blk.of (arr.toList.map (vOf1 w)) with ro := true }
theorem blkOf_size (w : World) (arr : Array Value) : (blkOf w arr).size = arr.size := by simp [blkOf, Blk.of]
theorem blkOf_get (w : World) (arr : Array Value) {i : Nat} {x : Value} (h : arr[i]? = some x) : (blkOf w arr).get i = vOf1 w x := by
 have hlt := (Array.getElem?_eq_some_iff.1 h).1
 have : (Blk.of (arr.toList.map (vOf1 w))).get i = (arr.toList.map (vOf1 w)).getD i qE := Blk.get_of _ i (by simpa using hlt)
 have e : (blkOf w arr).get i = (Blk.of (arr.toList.map (vOf1 w))).get i := rfl
 rw [e, this]
 have hx := (Array.getElem?_eq_some_iff.1 h).2
 simp [List.getD, hlt, hx]
def objOf (w : World) (b : Nat) : O := match w.heap[b]? with
 | some (.cells arr e _) => .cells (blkOf w arr) e
 | _ => .dead
def heapN (w : World) : Nat → Heap
 | 0 => ⟨0, .nil⟩
 | n + 1 => (heapN w n).push (objOf w n)
theorem heapN_n (w : World) : ∀ n, (heapN w n).n = n
 | 0 => rfl
 | n + 1 => by simp [heapN, heapN_n w n]
theorem heapN_get (w : World) : ∀ n b, b < n → (heapN w n).get b = some (objOf w b)
 | 0, b, h => by omega
 | n + 1, b, h => by
  unfold heapN
  rw [Heap.yR, heapN_n]
  by_cases e : b = n
  ·rw [if_pos e, e]
  ·rw [if_neg e]; exact heapN_get w n b (by omega)
def heap0 (w : World) : Heap := heapN w w.heap.size
def hf0 (w : World) : HF := fun b => if b < w.heap.size then some (objOf w b) else none
theorem heap0_n (w : World) : (heap0 w).n = w.heap.size := heapN_n w _
theorem heap0_get {w : World} {b : Nat} {arr : Array Value} {e : TypeId} {fz : Nat × Nat} (h : w.heap[b]? = some (.cells arr e fz)) : (heap0 w).get b = some (.cells (blkOf w arr) e) := by
 have hb := (Array.getElem?_eq_some_iff.1 h).1
 rw [heap0, heapN_get w _ b hb]
 simp [objOf, h]
theorem inv0 (w : World) : Inv P (hf0 w) (rn0 w) w := by
 refine ⟨fun b o hb hd => ?_, fun a b la lb ha hb hla hlb hab => ?_, ⟨w.heap.size, fun b hb => ?_⟩⟩
 ·unfold hf0 at hb
  split at hb
  ·rename_i hlt
   cases hb
   unfold objOf at hd ⊢
   split at hd
   ·rename_i arr e fz hw
    refine ⟨⟨b, 0, 0⟩, by simp [rn0, openB, hw], arr, ⟨fz, fun h => (by cases h), by simpa using hw⟩, by simp [blkOf_size], fun i hi => ?_⟩
    rw [blkOf_size] at hi
    rw [blkOf_get w arr (Array.getElem?_eq_some_iff.2 ⟨hi, rfl⟩)]
    have := vOf1_rel w arr[i]
    exact ⟨this.1, by simp [this.2, hi]⟩
   ·cases hd
  ·cases hb
 ·unfold rn0 at hla hlb
  split at hla <;> split at hlb <;> cases hla <;> cases hlb
  exact hab
 ·constructor
  ·unfold rn0 openB
   rw [Array.getElem?_eq_none hb]
  ·unfold hf0
   rw [if_neg (by omega)]
theorem pre0 (w : World) (R W : Set') : PreU P (heap0 w) R W (hf0 w) (rn0 w) w := by
 refine ⟨fun b hb _ => ?_, fun b hb => ?_, inv0 w⟩
 ·rw [heap0_n] at hb
  rw [heap0, heapN_get w _ b hb, hf0, if_pos hb]
 ·rw [heap0_n] at hb
  refine ⟨?_, by rw [hf0, if_neg (by omega)]⟩
  unfold rn0 openB
  rw [Array.getElem?_eq_none hb]
theorem vOf1s_rel (w : World) : ∀ l : List Value, V.onL (rn0 w) (l.map (vOf1 w)) ∧ V.reL (rn0 w) (l.map (vOf1 w)) = l
 | [] => ⟨trivial, rfl⟩
 | x :: r => by
  have h1 := vOf1_rel w x
  have h2 := vOf1s_rel w r
  exact ⟨⟨h1.1, h2.1⟩, by simp [V.reL, h1.2, h2.2]⟩
def vOf (w : World) : Value → V
 | .agg cs => .agg (cs.toList.map (vOf1 w))
 | x => vOf1 w x
theorem vOf_rel (w : World) (x : Value) : (vOf w x).on (rn0 w) ∧ (vOf w x).re (rn0 w) = x := by
 unfold vOf
 split
 ·rename_i cs
  have := vOf1s_rel w cs.toList
  exact ⟨this.1, by simp [V.re, this.2]⟩
 ·exact vOf1_rel w x
theorem vOf_one (w : World) (x : Value) (h : ∀ c, x ≠ .agg c) : vOf w x = vOf1 w x := by
 unfold vOf
 split
 ·rename_i c; exact absurd rfl (h c)
 ·rfl
theorem vOfs_rel (w : World) : ∀ l : List Value, V.onL (rn0 w) (l.map (vOf w)) ∧ V.reL (rn0 w) (l.map (vOf w)) = l
 | [] => ⟨trivial, rfl⟩
 | x :: r => by
  have h1 := vOf_rel w x
  have h2 := vOfs_rel w r
  exact ⟨⟨h1.1, h2.1⟩, by simp [V.reL, h1.2, h2.2]⟩
theorem law_open {M : MP} {f : FuncId} {args : Array Value} {w : World} {R : Set'} (hs : SF M f (args.toList.map (vOf w)) (heap0 w) R (fun b => w.heap.size ≤ b) fun v _ => v = .bool true) :
  Calls M.P f args w fun e w' => e = .returned (.bool true) ∧ RowKit.Below w.heap.size w w' := by
 have ha := vOfs_rel w args.toList
 have hc := hs.all _ _ w (pre0 w R _) ha.1
 rw [ha.2, Array.toArray_toList] at hc
 refine (callsIn_wide (n := 0)).1 (CallsIn.mono hc ?_)
 rintro e w' ⟨x, σ', H', v, h', rfl, vf, rfl, hx, hst⟩
 refine ⟨by rw [hx.2]; rfl, hst.goes.below fun b ⟨o, ho, _⟩ hW => ?_⟩
 have h1 : b < (heap0 w).n := hW.1
 have h2 : w.heap.size ≤ b := hW.2
 rw [heap0_n] at h1
 omega

inductive VT where
 | bool
 | int (k : IntKind)
 | slice (e : VT)
 | struct (fs : List VT)
 | array (n : Nat) (e : VT)
mutual
def VT.size : VT → Nat
 | .bool => 1
 | .int _ => 1
 | .slice _ => 1
 | .struct fs => VT.sizes fs
 | .array n e => n * e.size
def VT.sizes : List VT → Nat
 | [] => 0
 | t :: r => t.size + VT.sizes r
end
def VSl (h : Heap) (sz : Nat) (Q : List V → Prop) (v : V) : Prop :=
 v = .slice none 0 0 true ∨ (∃ a, v = .esl a) ∨ ∃ b o len cap c ce, v = .slice (some (b, o)) len cap true ∧ len ≤ cap ∧ 0 < cap ∧ cap ≤ 9223372036854775807 ∧ h.get b = some (.cells c ce) ∧ o + cap * sz ≤ c.size ∧ ∀ i, i < cap → Q (c.gets (o + i * sz) sz)
mutual
def VIs (h : Heap) : VT → List V → Prop
 | .bool, cs => ∃ b, cs = [.bool b]
 | .int k, cs => ∃ n, cs = [.int k n] ∧ k.min ≤ n ∧ n ≤ k.max
 | .slice e, cs => ∃ v, cs = [v] ∧ VSl h e.size (VIs h e) v
 | .struct fs, cs => VIss h fs cs
 | .array n e, cs => cs.length = n * e.size ∧ ∀ i, i < n → VIs h e ((cs.drop (i * e.size)).take e.size)
def VIss (h : Heap) : List VT → List V → Prop
 | [], cs => cs = []
 | t :: r, cs => VIs h t (cs.take t.size) ∧ VIss h r (cs.drop t.size)
end
mutual
def vtOk (P : Program) : Nat → TypeId → VT → Bool
 | 0, _, _ => false
 | n + 1, t, vt => match P.underlying t, vt with
  | some .bool, .bool => true
  | some (.int k), .int k' => decide (k = k')
  | some (.slice e), .slice ve => Nat.beq (P.cellsOf e) ve.size && Nat.blt 0 ve.size && vtOk P n e ve
  | some (.struct fs), .struct vs => Nat.beq (P.cellsOf t) (VT.sizes vs) && vtOks P n 0 fs.toList vs
  | some (.array m e), .array m' ve => Nat.beq m m' && Nat.beq (P.cellsOf t) (m * ve.size) && Nat.beq (P.cellsOf e) ve.size && vtOk P n e ve
  | _, _ => false
def vtOks (P : Program) : Nat → Nat → List Field → List VT → Bool
 | 0, _, _, _ => false
 | _ + 1, _, [], [] => true
 | n + 1, off, f :: fs, v :: vs => Nat.beq f.offset off && Nat.beq (P.cellsOf f.type) v.size && vtOk P n f.type v && vtOks P n (off + v.size) fs vs
 | _ + 1, _, _, _ => false
end
theorem cells_mapM {w : World} {a : Addr} : ∀ {l : List Nat} {cs : List Value}, (l.mapM fun i => w.cell? (a.add i)) = some cs → cs.length = l.length ∧ ∀ (j i : Nat), l[j]? = some i → w.cell? (a.add i) = cs[j]?
 | [], cs, h => by simp at h; subst h; simp
 | x :: l, cs, h => by
  rw [List.mapM_cons] at h
  cases hx : w.cell? (a.add x) with
  | none => simp [hx] at h
  | some v =>
   cases hl : (l.mapM fun i => w.cell? (a.add i)) with
   | none => simp [hx, hl] at h
   | some vs =>
    simp [hx, hl] at h
    subst h
    obtain ⟨h1, h2⟩ := cells_mapM hl
    refine ⟨by simp [h1], fun j i hj => ?_⟩
    cases j with
    | zero => simp at hj; subst hj; simp [hx]
    | succ j => simp at hj; simp [h2 j i hj]
theorem cells_at {w : World} {base : Nat} {a : Addr} {n : Nat} {cs : List Value} (h : w.cells? base a n = some cs) (hn : 0 < n) :
  ∃ arr e fz, w.heap[a.block]? = some (.cells arr e fz) ∧ a.spot = none ∧ a.off + n ≤ arr.size ∧ cs.length = n ∧ ∀ i, i < n → arr[a.off + i]? = cs[i]? := by
 unfold World.cells? at h
 split at h
 ·obtain ⟨h1, h2⟩ := cells_mapM h
  have hlen : cs.length = n := by simpa using h1
  have key : ∀ i, i < n → w.cell? (a.add i) = cs[i]? := fun i hi => h2 i i (by simp [hi])
  have hc0 := key 0 hn
  rw [List.getElem?_eq_getElem (by omega)] at hc0
  have ha0 : a.add 0 = a := by simp [Addr.add]
  rw [ha0] at hc0
  unfold World.cell? at hc0
  split at hc0
  ·rename_i arr e fz hw
   split at hc0
   ·cases hc0
   ·rename_i hsp
    have hsp' : a.spot = none := by cases hs : a.spot with
     | none => rfl
     | some x => simp [hs] at hsp
    have key2 : ∀ i, i < n → arr[a.off + i]? = cs[i]? := by
     intro i hi
     have := key i hi
     by_cases h0 : i = 0
     ·subst h0
      rw [ha0] at this
      simpa [World.cell?, hw, hsp'] using this
     ·simpa [World.cell?, Addr.add, h0, hw] using this
    refine ⟨arr, e, fz, hw, hsp', ?_, hlen, key2⟩
    have hl := key2 (n - 1) (by omega)
    rw [List.getElem?_eq_getElem (by omega)] at hl
    have := (Array.getElem?_eq_some_iff.1 hl).1
    omega
  ·cases hc0
 ·cases h
theorem gets_eq {b : Blk} {n o : Nat} {l : List V} (hl : l.length = n) (h : ∀ i, i < n → l[i]? = some (b.get (o + i))) : b.gets o n = l := by
 refine List.ext_getElem? fun i => ?_
 by_cases hi : i < n
 ·rw [Blk.qM b n o i hi, h i hi]
 ·rw [List.getElem?_eq_none (by rw [Blk.qJ]; omega), List.getElem?_eq_none (by omega)]
theorem range_mapM {α : Type} {f : Nat → Option α} : ∀ {l : List Nat} {r : List α}, l.mapM f = some r → ∀ i ∈ l, ∃ y, f i = some y
 | [], r, h, i, hi => by cases hi
 | x :: l, r, h, i, hi => by
  rw [List.mapM_cons] at h
  cases hx : f x with
  | none => simp [hx] at h
  | some v =>
   cases hl : l.mapM f with
   | none => simp [hx, hl] at h
   | some vs =>
    rcases List.mem_cons.1 hi with rfl | hi
    ·exact ⟨v, hx⟩
    ·exact range_mapM hl i hi
theorem addr_spot_add (a : Addr) (h : a.spot = none) (n : Nat) : a.add n = ⟨a.block, a.off + n, none⟩ := by
 unfold Addr.add
 split
 ·rename_i h0; subst h0; cases a; simp at h; simp [h]
 ·rfl

theorem vOf1_slice (w : World) {b o len cap : Nat} (hc : 0 < cap) (hb : openB w b = true) : vOf1 w (.slice (some ⟨b, o, none⟩) len cap) = .slice (some (b, o)) len cap true := by
 cases cap with
 | zero => omega
 | succ c => cases len <;> simp [vOf1, hb]
section
variable {H : Type} {enc : TypeId × Value → H} {w : World}
theorem trod_fields {n : Nat} (ih : ∀ (m : Nat) (t : TypeId) (vt : VT) (cs : List Value) (x : DataW H × List MemPlace), vtOk P m t vt = true → DataW.trod enc P w 0 (fun _ => true) true n t cs = some x → VIs (heap0 w) vt (cs.map (vOf1 w))) (cs : List Value) :
  ∀ (k off : Nat) (fs : List Field) (vs : List VT) (xs : List (DataW H × List MemPlace)), vtOks P k off fs vs = true → off + VT.sizes vs = cs.length →
   (fs.mapM fun f => DataW.trod enc P w 0 (fun _ => true) true n f.type ((cs.drop f.offset).take (P.cellsOf f.type))) = some xs → VIss (heap0 w) vs ((cs.drop off).map (vOf1 w))
 | 0, off, fs, vs, xs, h, hl, hx => by simp [vtOks] at h
 | k + 1, off, [], [], xs, h, hl, hx => by
  simp only [VT.sizes] at hl
  show (cs.drop off).map (vOf1 w) = []
  rw [List.drop_eq_nil_of_le (by omega)]; rfl
 | k + 1, off, f :: fs, v :: vs, xs, h, hl, hx => by
  simp only [vtOks, Bool.and_eq_true] at h
  obtain ⟨⟨⟨h1, h2⟩, h3⟩, h4⟩ := h
  have h1 := Nat.eq_of_beq_eq_true h1
  have h2 := Nat.eq_of_beq_eq_true h2
  rw [List.mapM_cons] at hx
  cases hy : DataW.trod enc P w 0 (fun _ => true) true n f.type ((cs.drop f.offset).take (P.cellsOf f.type)) with
  | none => simp [hy] at hx
  | some y =>
   cases hz : (fs.mapM fun f => DataW.trod enc P w 0 (fun _ => true) true n f.type ((cs.drop f.offset).take (P.cellsOf f.type))) with
   | none => simp [hy, hz] at hx
   | some ys =>
    have i1 := ih k f.type v _ y h3 hy
    simp only [VT.sizes] at hl
    have i2 := trod_fields ih cs k (off + v.size) fs vs ys h4 (by omega) hz
    rw [h1, h2] at i1
    refine ⟨?_, ?_⟩
    ·rw [← List.map_take]; exact i1
    ·rw [← List.map_drop, List.drop_drop]; exact i2
 | k + 1, off, [], v :: vs, xs, h, hl, hx => by simp [vtOks] at h
 | k + 1, off, f :: fs, [], xs, h, hl, hx => by simp [vtOks] at h
theorem trod_vis : ∀ (n m : Nat) (t : TypeId) (vt : VT) (cs : List Value) (x : DataW H × List MemPlace), vtOk P m t vt = true → DataW.trod enc P w 0 (fun _ => true) true n t cs = some x → VIs (heap0 w) vt (cs.map (vOf1 w)) := by
 intro n
 induction n with
 | zero => intro m t vt cs x _ h; cases h
 | succ n ih =>
  intro m t vt cs x hv h
  cases m with
  | zero => simp [vtOk] at hv
  | succ m =>
   unfold vtOk at hv
   unfold DataW.trod at h
   split at hv
   ·rename_i hu
    rw [hu] at h
    split at h <;> rename_i he <;> first | (cases he; done) | skip
    ·exact ⟨_, rfl⟩
    ·cases h
   ·rename_i k k' hu
    rw [hu] at h
    have hk : k = k' := of_decide_eq_true hv
    subst hk
    split at h <;> rename_i he <;> first | (cases he; done) | skip
    ·rename_i k1 k2 nn
     cases he
     split at h
     ·rename_i hc
      obtain ⟨rfl, hw⟩ := hc
      simp only [Lit.wf, Bool.and_eq_true, decide_eq_true_eq] at hw
      exact ⟨nn, rfl, hw.1, hw.2⟩
     ·cases h
    ·cases h
   ·rename_i e ve hu
    simp only [Bool.and_eq_true] at hv
    obtain ⟨⟨hsz, hpos⟩, hok⟩ := hv
    have hsz := Nat.eq_of_beq_eq_true hsz
    have hpos := Nat.blt_eq.mp hpos
    rw [hu] at h
    split at h <;> rename_i he <;> first | (cases he; done) | skip
    ·exact ⟨_, rfl, .inl rfl⟩
    ·rename_i e2 a len cap
     cases he
     split at h
     ·rename_i hc
      obtain ⟨_, hlc, hcm⟩ := hc
      rw [hsz] at h
      cases hel : (List.range len).mapM (fun i => (w.cells? 0 (a.add (i * ve.size)) ve.size).bind (DataW.trod enc P w 0 (fun _ => true) true n e)) with
      | none => simp [hel] at h
      | some elems =>
       cases hre : (List.range (cap - len)).mapM (fun j => (w.cells? 0 (a.add ((len + j) * ve.size)) ve.size).bind (DataW.trod enc P w 0 (fun _ => true) true n e)) with
       | none => simp [hel, hre] at h
       | some rest =>
        have all : ∀ i, i < cap → ∃ ci y, w.cells? 0 (a.add (i * ve.size)) ve.size = some ci ∧ DataW.trod enc P w 0 (fun _ => true) true n e ci = some y := by
         intro i hi
         have : ∃ y, (w.cells? 0 (a.add (i * ve.size)) ve.size).bind (DataW.trod enc P w 0 (fun _ => true) true n e) = some y := by
          by_cases hil : i < len
          ·exact range_mapM hel i (List.mem_range.2 hil)
          ·obtain ⟨y, hy⟩ := range_mapM hre (i - len) (List.mem_range.2 (by omega))
           rw [show len + (i - len) = i by omega] at hy
           exact ⟨y, hy⟩
         obtain ⟨y, hy⟩ := this
         cases hci : w.cells? 0 (a.add (i * ve.size)) ve.size with
         | none => simp [hci] at hy
         | some ci => exact ⟨ci, y, rfl, by simpa [hci] using hy⟩
        rcases Nat.eq_zero_or_pos cap with h0 | h0
        ·have hl0 : len = 0 := by omega
         subst h0 hl0
         exact ⟨_, rfl, .inr (.inl ⟨a, rfl⟩)⟩
        ·obtain ⟨c0, y0, hc0, _⟩ := all 0 h0
         obtain ⟨arr, te, fz, hw, hsp, _, _, _⟩ := cells_at hc0 hpos
         have ha0 : a.add (0 * ve.size) = a := by simp [Addr.add]
         rw [ha0] at hw hsp
         obtain ⟨b, o, sp⟩ := a
         simp only at hw hsp
         subst hsp
         have hop : openB w b = true := by simp [openB, hw]
         have key : ∀ i, i < cap → o + i * ve.size + ve.size ≤ arr.size ∧ VIs (heap0 w) ve ((blkOf w arr).gets (o + i * ve.size) ve.size) := by
          intro i hi
          obtain ⟨ci, y, hci, hy⟩ := all i hi
          obtain ⟨arr', te', fz', hw', _, hle, hlen, hget⟩ := cells_at hci hpos
          rw [addr_spot_add _ rfl] at hw' hle hget
          simp only at hw' hle hget
          rw [hw] at hw'
          cases hw'
          refine ⟨hle, ?_⟩
          rw [gets_eq (l := ci.map (vOf1 w)) (by simp [hlen]) (fun j hj => ?_)]
          ·exact ih m e ve ci y hok hy
          ·have h1 := hget j hj
           rw [List.getElem?_eq_getElem (by omega)] at h1
           rw [blkOf_get w arr h1, List.getElem?_map, List.getElem?_eq_getElem (by omega)]
           rfl
         refine ⟨_, rfl, .inr (.inr ⟨b, o, len, cap, blkOf w arr, te, vOf1_slice w h0 hop, hlc, h0, Nat.le_trans hcm (by decide), heap0_get hw, ?_, fun i hi => (key i hi).2⟩)⟩
         have := (key (cap - 1) (by omega)).1
         rw [blkOf_size]
         have e1 : cap * ve.size = (cap - 1) * ve.size + ve.size := by
          conv => lhs; rw [show cap = (cap - 1) + 1 by omega, Nat.add_mul, Nat.one_mul]
         omega
     ·cases h
    ·cases h
   ·rename_i fs vs hu
    simp only [Bool.and_eq_true] at hv
    obtain ⟨hsz, hok⟩ := hv
    have hsz := Nat.eq_of_beq_eq_true hsz
    rw [hu] at h
    dsimp only at h
    by_cases hl : cs.length = P.cellsOf t
    ·rw [if_pos hl] at h
     cases hx : (fs.toList.mapM fun f => DataW.trod enc P w 0 (fun _ => true) true n f.type ((cs.drop f.offset).take (P.cellsOf f.type))) with
     | none => simp [hx] at h
     | some xs =>
      have := trod_fields ih cs m 0 fs.toList vs xs hok (by omega) hx
      rw [List.drop_zero] at this
      exact this
    ·rw [if_neg hl] at h; cases h
   ·rename_i k e k' ve hu
    simp only [Bool.and_eq_true] at hv
    obtain ⟨⟨⟨hk, hsz⟩, hse⟩, hok⟩ := hv
    have hk := Nat.eq_of_beq_eq_true hk
    have hsz := Nat.eq_of_beq_eq_true hsz
    have hse := Nat.eq_of_beq_eq_true hse
    subst hk
    rw [hu] at h
    dsimp only at h
    by_cases hl : cs.length = P.cellsOf t
    ·rw [if_pos hl, hse] at h
     cases hx : ((List.range k).mapM fun i => DataW.trod enc P w 0 (fun _ => true) true n e ((cs.drop (i * ve.size)).take ve.size)) with
     | none => simp [hx] at h
     | some xs =>
      refine ⟨by simp; omega, fun i hi => ?_⟩
      obtain ⟨y, hy⟩ := range_mapM hx i (List.mem_range.2 hi)
      rw [← List.map_drop, ← List.map_take]
      exact ih m e ve _ y hok hy
    ·rw [if_neg hl] at h; cases h
   ·cases hv
end
end Go.Vm
set_option linter.unusedVariables false
namespace Go.Vm
variable {P : Program}

def jC : V → Int
 | .int _ n => n
 | _ => 0
structure IMap (es : kQ) (ck : Nat) : Prop where
 ok : EntsOk es ck
 ints : ∀ e ∈ es, ∃ k : Int, e.1 = .int .i64 k
 keys : (es.map fun e => jC e.1).Nodup
def zG : kQ → Int → Option V
 | [], _ => none
 | e :: r, k => if jC e.1 = k then some e.2.1 else zG r k
theorem getI_hit {e : V × V × Nat} {k : Int} (r : kQ) (h : jC e.1 = k) : zG (e :: r) k = some e.2.1 := by unfold zG; rw [if_pos h]
theorem xG {e : V × V × Nat} {k : Int} (r : kQ) (h : jC e.1 ≠ k) : zG (e :: r) k = zG r k := by rw [zG, if_neg h]
theorem IMap.nil : IMap [] 0 := ⟨EntsOk.nil, by simp, by simp⟩
theorem eqD_int {kt : TypeId} (hu : P.underlying kt = some (.int .i64)) (a b : Int) : eqD P 10 kt (.int .i64 a) (.int .i64 b) = some (a == b) := by
 simp [eqD, hu]
theorem findV_none {kt : TypeId} (hu : P.underlying kt = some (.int .i64)) {k : Int} : ∀ {es : kQ} {i : Nat}, (∀ e ∈ es, ∃ k : Int, e.1 = .int .i64 k) → zG es k = none → findV P kt (.int .i64 k) es i = some none
 | [], i, _, _ => rfl
 | e :: r, i, hi, h => by
  obtain ⟨x, hx⟩ := hi e (by simp)
  have hkx : jC e.1 = x := by rw [hx]; rfl
  unfold zG at h
  by_cases hk : jC e.1 = k
  ·rw [if_pos hk] at h; cases h
  ·rw [if_neg hk] at h
   have : (k == x) = false := by simpa using fun e : k = x => hk (hkx.trans e.symm)
   unfold findV
   rw [hx, eqD_int hu, this]
   exact findV_none hu (fun e he => hi e (by simp [he])) h
theorem findV_some {kt : TypeId} (hu : P.underlying kt = some (.int .i64)) {k : Int} {v : V} : ∀ {es : kQ} {i : Nat}, (∀ e ∈ es, ∃ k : Int, e.1 = .int .i64 k) → zG es k = some v → ∃ j e, es[j]? = some e ∧ e.1 = .int .i64 k ∧ e.2.1 = v ∧ findV P kt (.int .i64 k) es i = some (some (i + j, v))
 | [], i, _, h => by cases h
 | e :: r, i, hi, h => by
  obtain ⟨x, hx⟩ := hi e (by simp)
  have hkx : jC e.1 = x := by rw [hx]; rfl
  unfold zG at h
  by_cases hk : jC e.1 = k
  ·rw [if_pos hk] at h; cases h
   have hxk : x = k := hkx.symm.trans hk
   subst hxk
   refine ⟨0, e, rfl, hx, rfl, ?_⟩
   unfold findV
   rw [hx, eqD_int hu, beq_self_eq_true]
   rfl
  ·rw [if_neg hk] at h
   have : (k == x) = false := by simpa using fun e : k = x => hk (hkx.trans e.symm)
   obtain ⟨j, e', h1, h2, h3, h4⟩ := findV_some (i := i + 1) hu (fun e he => hi e (by simp [he])) h
   refine ⟨j + 1, e', by simpa using h1, h2, h3, ?_⟩
   unfold findV
   rw [hx, eqD_int hu, this]
   simp only []
   rw [h4, show i + 1 + j = i + (j + 1) by omega]
theorem look_int {t kt et : TypeId} {z : V} (ht : P.underlying t = some (.map kt et)) (hu : P.underlying kt = some (.int .i64)) (hz : zeroV P et = some z) {h : Heap} {r : Nat} {es : kQ} {ck : Nat} (hr : h.get r = some (.map es ck)) (hm : IMap es ck) (k : Int) :
  lookV P t h (.map (some r)) (.int .i64 k) false = some ((zG es k).getD z, [r]) := by
 have hk : keyOk P 10 kt (.int .i64 k) = true := by simp [keyOk, hu]
 simp only [lookV, ht, hu, hk, hz, hr]
 cases hg : zG es k with
 | none => rw [findV_none hu hm.ints hg]; rfl
 | some v =>
  obtain ⟨j, e, _, _, _, hf⟩ := findV_some (i := 0) hu hm.ints hg
  rw [hf]; rfl
theorem getI_append (es : kQ) (k x : Int) (v : V) (c : Nat) : zG (es ++ [(.int .i64 k, v, c)]) x = match zG es x with
  | some w => some w
  | none => if x = k then some v else none := by
 induction es with
 | nil =>
  by_cases e : x = k
  ·rw [List.nil_append, getI_hit (e := (V.int .i64 k, v, c)) _ (show k = x from e.symm)]; simp [zG, e]
  ·rw [List.nil_append, xG (e := (V.int .i64 k, v, c)) _ (show k ≠ x from fun e1 => e e1.symm)]; simp [zG, e]
 | cons e r ih =>
  rw [List.cons_append]
  by_cases hk : jC e.1 = x
  ·rw [getI_hit _ hk, getI_hit _ hk]
  ·rw [xG _ hk, xG _ hk]; exact ih
theorem getI_none {es : kQ} {k : Int} (h : zG es k = none) : ∀ e ∈ es, jC e.1 ≠ k := by
 induction es with
 | nil => simp
 | cons e r ih =>
  unfold zG at h
  split at h
  ·cases h
  ·rename_i hne
   intro e' he'
   rcases List.mem_cons.1 he' with rfl | he'
   ·exact hne
   ·exact ih h e' he'
theorem getI_set : ∀ {es : kQ} {j : Nat} {e : V × V × Nat} {k : Int} {v : V} {c : Nat}, (es.map fun e => jC e.1).Nodup → es[j]? = some e → jC e.1 = k → ∀ x, zG (es.set j (.int .i64 k, v, c)) x = if x = k then some v else zG es x
 | [], j, e, k, v, c, _, h, _, x => by simp at h
 | e0 :: r, 0, e, k, v, c, hn, h, hk, x => by
  simp at h; subst h
  rw [List.set_cons_zero]
  by_cases ex : x = k
  ·rw [getI_hit (e := (V.int .i64 k, v, c)) _ (show k = x from ex.symm), if_pos ex]
  ·rw [xG (e := (V.int .i64 k, v, c)) _ (show k ≠ x from fun e1 => ex e1.symm), if_neg ex, xG _ (by rw [hk]; exact fun e1 => ex e1.symm)]
 | e0 :: r, j + 1, e, k, v, c, hn, h, hk, x => by
  simp only [List.getElem?_cons_succ] at h
  simp only [List.map_cons, List.nodup_cons] at hn
  have hne : jC e0.1 ≠ k := fun e1 => hn.1 (by rw [e1, ← hk]; exact List.mem_map.2 ⟨e, List.mem_of_getElem? h, rfl⟩)
  rw [List.set_cons_succ]
  by_cases hx : jC e0.1 = x
  ·rw [getI_hit _ hx, getI_hit _ hx, if_neg (fun e1 => hne (hx.trans e1))]
  ·rw [xG _ hx, xG _ hx, getI_set hn.2 h hk x]
theorem getI_mem : ∀ {es : kQ} {k : Int} {v : V}, zG es k = some v → ∃ e ∈ es, jC e.1 = k
 | e :: r, k, v, h => by
  by_cases hk : jC e.1 = k
  ·exact ⟨e, by simp, hk⟩
  ·rw [xG _ hk] at h
   obtain ⟨e', he', hk'⟩ := getI_mem h
   exact ⟨e', by simp [he'], hk'⟩
theorem set_same {α : Type} {l : List α} {j : Nat} {x : α} (h : l[j]? = some x) : l.set j x = l := by
 apply List.ext_getElem?
 intro i
 by_cases e : j = i
 ·subst e; rw [List.getElem?_set_self (List.getElem?_eq_some_iff.1 h).1, h]
 ·rw [List.getElem?_set_ne e]
theorem upd_int {t kt et : TypeId} (ht : P.underlying t = some (.map kt et)) (hu : P.underlying kt = some (.int .i64)) {h : Heap} {r : Nat} {es : kQ} {ck : Nat} (hr : h.get r = some (.map es ck)) (hm : IMap es ck) (k : Int) (v : V) :
  ∃ es' ck', updV P t h (.map (some r)) (.int .i64 k) v = some (h.set r (.map es' ck'), [r]) ∧ IMap es' ck' ∧ (∀ x, zG es' x = if x = k then some v else zG es x) ∧ es'.length ≤ es.length + 1 := by
 have hk : keyOk P 10 kt (.int .i64 k) = true := by simp [keyOk, hu]
 simp only [updV, ht, hu, hk, hr]
 cases hg : zG es k with
 | none =>
  rw [findV_none hu hm.ints hg]
  refine ⟨_, _, rfl, ⟨hm.ok.push _ _, ?_, ?_⟩, fun x => ?_, by simp⟩
  ·intro e he
   rcases List.mem_append.1 he with he | he
   ·exact hm.ints e he
   ·simp at he; subst he; exact ⟨k, rfl⟩
  ·rw [List.map_append, List.nodup_append]
   refine ⟨hm.keys, by simp, fun a ha b hb => ?_⟩
   simp [jC] at hb; subst hb
   obtain ⟨e, he, rfl⟩ := List.mem_map.1 ha
   exact getI_none hg e he
  ·rw [getI_append]
   by_cases ex : x = k
   ·subst ex; rw [hg]
   ·rw [if_neg ex, if_neg ex]; cases zG es x <;> rfl
 | some w =>
  obtain ⟨j, e, h1, h2, h3, hf⟩ := findV_some (i := 0) hu hm.ints hg
  rw [hf]
  simp only [Nat.zero_add, h1, h2]
  have hs : sameV 10 (.int .i64 k) (.int .i64 k) = true := by simp [sameV]
  rw [hs]
  have hke : jC e.1 = k := by rw [h2]; rfl
  refine ⟨_, _, rfl, ⟨hm.ok.set h1 _ _, ?_, ?_⟩, getI_set hm.keys h1 hke, by simp⟩
  ·intro e' he'
   rcases List.mem_or_eq_of_mem_set he' with he' | he'
   ·exact hm.ints e' he'
   ·subst he'; exact ⟨k, rfl⟩
  ·rw [List.map_set, show jC (V.int .i64 k) = jC e.1 from hke.symm, set_same (by simp [h1])]
   exact hm.keys
theorem getI_erase : ∀ {es : kQ} {j : Nat} {e : V × V × Nat}, (es.map fun e => jC e.1).Nodup → es[j]? = some e → ∀ x, zG (es.eraseIdx j) x = if x = jC e.1 then none else zG es x
 | [], j, e, _, h, x => by simp at h
 | e0 :: r, 0, e, hn, h, x => by
  simp at h; subst h
  simp only [List.map_cons, List.nodup_cons] at hn
  rw [List.eraseIdx_cons_zero]
  by_cases ex : x = jC e0.1
  ·rw [if_pos ex]
   cases hg : zG r x with
   | none => rfl
   | some w =>
    obtain ⟨e', he', hk⟩ := getI_mem hg
    exact absurd (List.mem_map.2 ⟨e', he', hk.trans ex⟩) hn.1
  ·rw [if_neg ex, xG _ (fun e1 => ex e1.symm)]
 | e0 :: r, j + 1, e, hn, h, x => by
  simp only [List.getElem?_cons_succ] at h
  simp only [List.map_cons, List.nodup_cons] at hn
  have hne : jC e0.1 ≠ jC e.1 := fun e1 => hn.1 (by rw [e1]; exact List.mem_map.2 ⟨e, List.mem_of_getElem? h, rfl⟩)
  rw [List.eraseIdx_cons_succ]
  by_cases hx : jC e0.1 = x
  ·rw [getI_hit _ hx, getI_hit _ hx, if_neg (fun e1 => hne (hx.trans e1))]
  ·rw [xG _ hx, xG _ hx, getI_erase hn.2 h x]
theorem del_int {t kt et : TypeId} (ht : P.underlying t = some (.map kt et)) (hu : P.underlying kt = some (.int .i64)) {h : Heap} {r : Nat} {es : kQ} {ck : Nat} (hr : h.get r = some (.map es ck)) (hm : IMap es ck) (k : Int) :
  ∃ es', delV P t h (.map (some r)) (.int .i64 k) = some ⟨qE, h.set r (.map es' ck), [], [r]⟩ ∧ IMap es' ck ∧ (∀ x, zG es' x = if x = k then none else zG es x) ∧ es'.length ≤ es.length := by
 have hk : keyOk P 10 kt (.int .i64 k) = true := by simp [keyOk, hu]
 simp only [delV, ht, hu, hk, hr]
 cases hg : zG es k with
 | none =>
  rw [findV_none hu hm.ints hg]
  refine ⟨es, rfl, hm, fun x => ?_, Nat.le_refl _⟩
  by_cases ex : x = k
  ·rw [if_pos ex, ex, hg]
  ·rw [if_neg ex]
 | some w =>
  obtain ⟨j, e, h1, h2, h3, hf⟩ := findV_some (i := 0) hu hm.ints hg
  rw [hf]
  simp only [Nat.zero_add]
  have hke : jC e.1 = k := by rw [h2]; rfl
  refine ⟨_, rfl, ⟨hm.ok.erase _, fun e' he' => hm.ints e' (List.mem_of_mem_eraseIdx he'), ?_⟩, fun x => by rw [getI_erase hm.keys h1, hke], ?_⟩
  ·exact hm.keys.sublist ((List.eraseIdx_sublist _ _).map _)
  ·exact (List.eraseIdx_sublist _ _).length_le
end Go.Vm
set_option linter.unusedVariables false
namespace Go.Vm
section
variable {P : Program} {tm : Tm} {h : Heap} {K : V → Heap → Set' → Set' → Prop}
theorem LOpD_makeMap (t : TypeId) : qV P tm h (.makeMap t none) K = K (.map (some h.n)) (h.push (.map [] 0)) (fun x => x ∈ ([] : List Nat)) (fun x => x ∈ ([] : List Nat)) := by
 unfold qV zV bare; simp only [evP]
theorem LOpD_lookup (t : TypeId) (x y : Operand) (ok : Bool) : qV P tm h (.lookup t x y ok) K = onO (evV tm x) fun a => onO (evV tm y) fun k => onO (lookV P t h a k ok) fun r => K r.1 h (fun x => x ∈ r.2) (fun x => x ∈ ([] : List Nat)) := by
 unfold qV zV bare; simp only [evP]
 cases evV tm x with
 | none => simp [onO]
 | some a =>
  cases evV tm y with
  | none => simp [onO]
  | some b => simp only [kU]; cases hq : lookV P t h a b ok <;> simp [onO]
theorem LOpD_mapUpdate (t : TypeId) (x y z : Operand) : qV P tm h (.mapUpdate t x y z) K = onO (evV tm x) fun a => onO (evV tm y) fun k => onO (evV tm z) fun v => onO (updV P t h a k v) fun r => K qE r.1 (fun x => x ∈ ([] : List Nat)) (fun x => x ∈ r.2) := by
 unfold qV zV bare; simp only [evP]
 cases evV tm x with
 | none => simp [onO]
 | some a =>
  cases evV tm y with
  | none => simp [onO]
  | some b =>
   cases evV tm z with
   | none => simp [onO]
   | some c => simp only [kU]; cases hq : updV P t h a b c <;> simp [onO]
theorem LOpD_buildSlice (t : TypeId) (n : Nat) (ps : Array (Nat × Operand)) : qV P tm h (.buildSlice t n ps) K = onO (xC tm ps.toList) fun vs => onO (kD P t n vs) fun r => K (.slice (some (h.n, 0)) n n true) (h.push (.cells (Blk.of r.2) r.1)) (fun x => x ∈ ([] : List Nat)) (fun x => x ∈ ([] : List Nat)) := by
 unfold qV zV bare; simp only [evP]
 cases xC tm ps.toList with
 | none => simp [onO]
 | some a => simp only [kU]; cases hq : kD P t n a <;> simp [onO]
theorem LOpD_slice (t : TypeId) (x : Operand) (lo hi mx : Option Operand) : qV P tm h (.slice t x lo hi mx) K = onO (evV tm x) fun a => onO (evI tm lo) fun l => onO (evI tm hi) fun u => onO (evI tm mx) fun m => onO (kC P t a (l.map (·.2)) (u.map (·.2)) (m.map (·.2))) fun v => K v h (fun x => x ∈ ([] : List Nat)) (fun x => x ∈ ([] : List Nat)) := by
 unfold qV zV bare; simp only [evP]
 cases evV tm x with
 | none => simp [onO]
 | some a =>
  cases evI tm lo with
  | none => simp [onO]
  | some l =>
   cases evI tm hi with
   | none => simp [onO]
   | some u =>
    cases evI tm mx with
    | none => simp [onO]
    | some m => simp only [kU]; cases hq : kC P t a (l.map (·.2)) (u.map (·.2)) (m.map (·.2)) <;> simp [one, onO]
theorem LOpD_arrAt (t : TypeId) (x : Operand) : qV P tm h (.sliceToArrayPointer t x) K = onO (evV tm x) fun a => onO (arrAtV P t a) fun v => K v h (fun x => x ∈ ([] : List Nat)) (fun x => x ∈ ([] : List Nat)) := by
 unfold qV zV bare; simp only [evP]
 cases evV tm x with
 | none => simp [onO]
 | some a => simp only [kU]; cases hq : arrAtV P t a <;> simp [one, onO]
end
attribute [go_sem ↓] LOpD_makeMap LOpD_lookup LOpD_mapUpdate LOpD_buildSlice LOpD_slice LOpD_arrAt
end Go.Vm
namespace Go.Vm
attribute [go_sem] List.length_cons List.length_nil Nat.one_mod Nat.zero_div List.getElem?_cons_zero List.getElem?_cons_succ List.getElem?_toArray List.getElem?_nil Bool.not_false Bool.not_true beq_self_eq_true Bool.not_eq_true true_and and_true true_or or_true false_or or_false List.append_nil List.nil_append List.cons_append Option.map_some Option.map_none Option.some.injEq decide_true decide_false if_true if_false Bool.false_eq_true gt_iff_lt ge_iff_le Nat.zero_add Nat.add_zero Nat.zero_mul Nat.mul_zero Nat.mul_one Nat.one_mul implies_true w_blt_t w_blt_f qW w_ble_f zL w_beq_f w_ilt_t w_ilt_f w_ile_t w_ile_f w_ieq_t w_ieq_f w_idx w_ite qH qC qF qB w_bset_eq w_bset_ne w_of_get w_i64 Blk.putA_short and_self Nat.add_eq Nat.le_refl Nat.le_add_right
theorem szs : (∀ (h : Heap) (o : O), (h.push o).n = h.n + 1) ∧ (∀ (h : Heap) (b : Nat) (o : O), (h.set b o).n = h.n) ∧ (∀ (b : Blk) (i : Nat) (v : V), (b.set i v).size = b.size) ∧ (∀ (l : List V) (b : Blk) (o : Nat), (b.puts o l).size = b.size) ∧ (∀ (b : Blk) (o : Nat) (l : List V), (b.jL o l).size = b.size) ∧ (∀ l : List V, (Blk.of l).size = l.length) ∧ (∀ (n : Nat) (l : List V), (Blk.rep n l).size = n) ∧
  (∀ (α : Type) (a : α) (l : List α), (a :: l).length = l.length + 1) ∧ ∀ α : Type, ([] : List α).length = 0 :=
 ⟨Heap.qG, Heap.n_set, Blk.size_set, Blk.zT, Blk.jR, jB, w_rep_size, fun _ _ _ => List.length_cons, fun _ => List.length_nil⟩
end Go.Vm
set_option linter.unusedVariables false
namespace Go.Vm
variable {P : Program}
theorem qX.yield {R W R' W' : Set'} {rd : Option Nat} {Q : Ex → Fr → Heap → Prop} {d : Option Tmp} {x : Tmp} {y : Nat} {args : Array Operand} {ts : Array TypeId} {vs : List V} {l : List LO} {ps : List (Nat × Nat)} {n : Nat} {rows : List RowP} {t : List It} {f : Fr} {h : Heap} {K : V → Heap → Prop}
  (hx : f.tm.get x = some (.yield y)) (hv : kY f.tm args.toList = some vs) (hc : SY ⟨P, true⟩ y vs h R' W' K) (hf : (ps.all fun p => !Nat.beq p.1 rows.length) = true) (hp : yN (rows ++ [⟨R', W', h.n, h.n⟩]) (ps.filter fun p => Nat.ble p.2 rows.length)) (ho : footP R W n (rows ++ [⟨R', W', h.n, h.n⟩]))
  (hk : ∀ v h', K v h' → qX ⟨P, true⟩ R W rd Q l ps n (rows ++ [⟨R', W', h.n, h'.n⟩]) t ⟨f.tm.put d v, f.mks⟩ h') : qX ⟨P, true⟩ R W rd Q (⟨d, .call ⟨.value (.tmp x), args, ts⟩, none⟩ :: l) ps n rows t f h := by
 unfold qX at hk ⊢
 show (qV P f.tm h _ _ ∨ LDem ⟨P, true⟩ R W ps n rows f.tm h _ _)
 refine .inr ⟨rfl, hf, R', W', hp, ho, ?_⟩
 show LOp ⟨P, true⟩ R' W' f.tm h (.call ⟨.value (.tmp x), args, ts⟩) _
 rw [LOp_callv, evV_tmp, hx]
 simp only [hv]
 exact hc.mono hk
end Go.Vm
set_option maxRecDepth 100000
set_option linter.unusedVariables false
namespace Go.Vm
def LR (h : Heap) (R : Set') (v : V) (l : List V) : Prop := (l = [] ∧ (v = .slice none 0 0 true ∨ ∃ a, v = .esl a)) ∨ ∃ b o cap ex c ce, v = .slice (some (b, o)) l.length cap ex ∧ R b ∧ h.get b = some (.cells c ce) ∧ o + l.length ≤ c.size ∧ c.gets o l.length = l
theorem LR.same {h h' : Heap} {R : Set'} {v : V} {l : List V} (hv : LR h R v l) (hk : ∀ b, R b → b < h.n → h'.get b = h.get b) : LR h' R v l := by
 refine hv.imp id ?_
 rintro ⟨b, o, cap, ex, c, ce, e, hR, hb, hs⟩
 exact ⟨b, o, cap, ex, c, ce, e, hR, by rw [hk _ hR (Heap.lt_of_get hb)]; exact hb, hs⟩
theorem LR.old {h h' : Heap} {R : Set'} {v : V} {l : List V} (hv : LR h R v l) (hk : ∀ b, b < h.n → h'.get b = h.get b) : LR h' R v l := hv.same fun b _ hb => hk b hb
theorem LR.mono {h : Heap} {R R' : Set'} {v : V} {l : List V} (hv : LR h R v l) (hk : ∀ b, b < h.n → R b → R' b) : LR h R' v l := by
 refine hv.imp id ?_
 rintro ⟨b, o, cap, ex, c, ce, e, hR, hb, hs⟩
 exact ⟨b, o, cap, ex, c, ce, e, hk b (Heap.lt_of_get hb) hR, hb, hs⟩
theorem LR.one {h : Heap} {R : Set'} {v : V} {l : List V} (hv : LR h R v l) : v.one = true := by
 rcases hv with ⟨rfl, rfl | ⟨a, rfl⟩⟩ | ⟨b, o, cap, ex, c, ce, rfl, _⟩ <;> rfl
theorem LR.cells {h : Heap} {R : Set'} {v : V} {l : List V} (hv : LR h R v l) : v.qZ = [v] := by
 rcases hv with ⟨rfl, rfl | ⟨a, rfl⟩⟩ | ⟨b, o, cap, ex, c, ce, rfl, _⟩ <;> rfl
theorem LR.lenV {P : Program} {t e : TypeId} (ht : P.underlying t = some (.slice e)) {h : Heap} {R : Set'} {v : V} {l : List V} (hv : LR h R v l) (g : Heap) : lenV P t v g = some (l.length, []) := by
 rcases hv with ⟨rfl, rfl | ⟨a, rfl⟩⟩ | ⟨b, o, cap, ex, c, ce, rfl, _⟩ <;> simp [Vm.lenV, ht]
theorem LR.get {h : Heap} {R : Set'} {v : V} {l : List V} (hv : LR h R v l) {i : Nat} (hi : i < l.length) : ∃ b o cap ex c ce, v = .slice (some (b, o)) l.length cap ex ∧ R b ∧ h.get b = some (.cells c ce) ∧ o + l.length ≤ c.size ∧ c.get (o + i) = l.getD i qE := by
 rcases hv with ⟨rfl, _⟩ | ⟨b, o, cap, ex, c, ce, rfl, hR, hb, hs, hg⟩
 ·simp at hi
 ·refine ⟨b, o, cap, ex, c, ce, rfl, hR, hb, hs, ?_⟩
  have := Blk.qM c l.length o i hi
  rw [hg] at this
  rw [List.getD_eq_getElem?_getD, this]; rfl
theorem first_lr {h : Heap} {R : Set'} {v : V} {l : List V} (hv : LR h R v l) : xH v = some l.length ∧ ∃ rs, kT h 1 l.length v = some (l, rs) ∧ ∀ b ∈ rs, R b := by
 rcases hv with ⟨rfl, rfl | ⟨a, rfl⟩⟩ | ⟨b, o, cap, ex, c, ce, rfl, hR, hb, hs, hg⟩
 ·exact ⟨rfl, [], rfl, fun b hb => by cases hb⟩
 ·exact ⟨rfl, [], rfl, fun b hb => by cases hb⟩
 ·refine ⟨rfl, [b], ?_, fun b' hb' => by simp at hb'; rw [hb']; exact hR⟩
  simp only [kT, hb]
  rw [qW (by omega), Nat.mul_one, hg]
def Own (n0 : Nat) (h : Heap) (v : V) (l : List V) (e : TypeId) : Prop := (l = [] ∧ (v = .slice none 0 0 true ∨ ∃ b c, v = .slice (some (b, 0)) 0 0 true ∧ n0 ≤ b ∧ h.get b = some (.cells c e) ∧ c.ro = false)) ∨ ∃ b x c, l ≠ [] ∧ v = .slice (some (b, 0)) l.length l.length x ∧ n0 ≤ b ∧ h.get b = some (.cells c e) ∧ c.size = l.length ∧ c.ro = false ∧ c.gets 0 l.length = l
theorem Own.lr {n0 : Nat} {h : Heap} {v : V} {l : List V} {e : TypeId} (ho : Own n0 h v l e) : LR h (fun b => n0 ≤ b) v l := by
 rcases ho with ⟨rfl, rfl | ⟨b, c, rfl, hb0, hb, _⟩⟩ | ⟨b, x, c, h0, rfl, hb0, hb, hs, _, hg⟩
 ·exact .inl ⟨rfl, .inl rfl⟩
 ·exact .inr ⟨b, 0, 0, true, c, e, rfl, hb0, hb, by simp, rfl⟩
 ·exact .inr ⟨b, 0, _, x, c, e, rfl, hb0, hb, by omega, hg⟩
theorem Own.nil (n0 : Nat) (h : Heap) (e : TypeId) : Own n0 h (.slice none 0 0 true) [] e := .inl ⟨rfl, .inl rfl⟩
theorem Own.old {n0 : Nat} {h h' : Heap} {v : V} {l : List V} {e : TypeId} (ho : Own n0 h v l e) (hk : ∀ b, b < h.n → h'.get b = h.get b) : Own n0 h' v l e := by
 rcases ho with ⟨rfl, rfl | ⟨b, c, rfl, h1, hb, hr⟩⟩ | ⟨b, x, c, h0, rfl, h1, hb, hs⟩
 ·exact .inl ⟨rfl, .inl rfl⟩
 ·exact .inl ⟨rfl, .inr ⟨b, c, rfl, h1, by rw [hk _ (Heap.lt_of_get hb)]; exact hb, hr⟩⟩
 ·exact .inr ⟨b, x, c, h0, rfl, h1, by rw [hk _ (Heap.lt_of_get hb)]; exact hb, hs⟩
theorem Own.mono {n0 n1 : Nat} {h : Heap} {v : V} {l : List V} {e : TypeId} (ho : Own n1 h v l e) (hn : n0 ≤ n1) : Own n0 h v l e := by
 rcases ho with ⟨rfl, rfl | ⟨b, c, rfl, h1, hb, hr⟩⟩ | ⟨b, x, c, h0, rfl, h1, hb, hs⟩
 ·exact .inl ⟨rfl, .inl rfl⟩
 ·exact .inl ⟨rfl, .inr ⟨b, c, rfl, by omega, hb, hr⟩⟩
 ·exact .inr ⟨b, x, c, h0, rfl, by omega, hb, hs⟩
theorem Own.keep {n0 : Nat} {h h' : Heap} {v : V} {l : List V} {e : TypeId} (ho : Own n0 h v l e) (hk : ∀ b c, h.get b = some (.cells c e) → h'.get b = some (.cells c e)) : Own n0 h' v l e := by
 rcases ho with ⟨rfl, rfl | ⟨b, c, rfl, h1, hb, hr⟩⟩ | ⟨b, x, c, h0, rfl, h1, hb, hs⟩
 ·exact .inl ⟨rfl, .inl rfl⟩
 ·exact .inl ⟨rfl, .inr ⟨b, c, rfl, h1, hk _ _ hb, hr⟩⟩
 ·exact .inr ⟨b, x, c, h0, rfl, h1, hk _ _ hb, hs⟩
def sblk : V → Nat
 | .slice (some (b, _)) _ _ _ => b
 | _ => 0
theorem Own.sblk_lt {n0 : Nat} {h : Heap} {v : V} {l : List V} {e : TypeId} (ho : Own n0 h v l e) (hp : 0 < h.n) : sblk v < h.n := by
 rcases ho with ⟨_, rfl | ⟨b, c, rfl, _, hb, _⟩⟩ | ⟨b, x, c, h0, rfl, _, hb, hs, _, hg⟩
 ·exact hp
 ·exact Heap.lt_of_get hb
 ·exact Heap.lt_of_get hb
theorem Own.above {n0 : Nat} {h h' : Heap} {v : V} {l : List V} {e : TypeId} (ho : Own n0 h v l e) (hk : ∀ b, n0 ≤ b → h'.get b = h.get b) : Own n0 h' v l e := by
 rcases ho with ⟨rfl, rfl | ⟨b, c, rfl, h1, hb', hr⟩⟩ | ⟨b, x, c, h0, rfl, h1, hb', hs⟩
 ·exact .inl ⟨rfl, .inl rfl⟩
 ·exact .inl ⟨rfl, .inr ⟨b, c, rfl, h1, by rw [hk b h1]; exact hb', hr⟩⟩
 ·exact .inr ⟨b, x, c, h0, rfl, h1, by rw [hk b h1]; exact hb', hs⟩
theorem qO {R : Set'} : ∀ {l : List Nat}, (∀ b ∈ l, R b) → allB R l
 | [], _ => by simp [allB]
 | b :: l, h => by
  simp only [allB]
  exact ⟨h b (by simp), qO fun c hc => h c (by simp [hc])⟩
theorem jK {n0 : Nat} {h : Heap} {v x : V} {l news : List V} {rs : List Nat} {e bytes : Nat} (ho : Own n0 h v l e) (hn : n0 ≤ h.n) (hx : xH x = some news.length) (hf : kT h 1 news.length x = some (news, rs)) (h1 : allOne news = true) (hb : (l.length + news.length) * bytes ≤ 140737488355328) (hc : l.length + news.length ≤ 9223372036854775807) : ∃ v' h' r w, appE e 1 bytes v x h = some ⟨v', h', r, w⟩ ∧ Own n0 h' v' (l ++ news) e ∧ h.n ≤ h'.n ∧ (∀ b, b < n0 → h'.get b = h.get b) ∧ (∀ b ∈ w, n0 ≤ b) ∧ (∀ b, b < h.n → b ∉ w → h'.get b = h.get b) ∧ ∀ b ∈ w, ∃ c, h.get b = some (.cells c e) := by
 have hm : news.length = news.length * 1 := by omega
 rcases ho with ⟨rfl, rfl | ⟨b, c, rfl, hb0, hb', hr⟩⟩ | ⟨b, ex, c, h0, rfl, hb0, hb', hs, hr, hg⟩
 ·simp only [appE, hx, hf]
  rw [zL hm, List.nil_append]
  by_cases k0 : news = []
  ·subst k0
   exact ⟨_, _, _, _, rfl, .inl ⟨rfl, .inl rfl⟩, Nat.le_refl _, fun _ _ => rfl, (fun b hb => by cases hb), fun _ _ _ => rfl, fun b hb => by cases hb⟩
  ·have hp := List.length_pos_iff.2 k0
   rw [w_ble_f (by omega)]
   simp only [List.length_nil] at hb hc
   simp only [kT, List.length_nil, Nat.zero_mul, Nat.beq]
   rw [qW hb, qW (by omega)]
   refine ⟨_, _, _, _, rfl, .inr ⟨h.n, false, Blk.of news, k0, by rw [Nat.zero_add], hn, by rw [qH rfl]; rfl, rfl, rfl, xK _ rfl⟩, by simp, fun b hb => by rw [qC (by omega)], (fun b hb => by cases hb), fun b hb _ => by rw [qC (by omega)], fun b hb => by cases hb⟩
 ·have hlt := Heap.lt_of_get hb'
  simp only [appE, hx, hf]
  rw [zL hm, List.nil_append]
  by_cases k0 : news = []
  ·subst k0
   rw [qW (by simp)]
   simp only [xY, hb', List.length_nil, allOne, hr]
   rw [qW (by omega)]
   refine ⟨_, _, _, _, rfl, .inl ⟨rfl, .inr ⟨b, _, rfl, hb0, by rw [qF hlt rfl], by rw [Blk.yU]; exact hr⟩⟩, by simp, fun b' hb' => by rw [qB hlt (by omega)], (fun b' hb' => by simp at hb'; omega), fun b' _ hb' => by rw [qB hlt (by simp at hb'; omega)], fun b' hx' => by simp at hx'; exact ⟨c, by rw [hx']; exact hb'⟩⟩
  ·have hp := List.length_pos_iff.2 k0
   rw [w_ble_f (by omega)]
   simp only [List.length_nil] at hb hc
   simp only [kT, hb']
   rw [qW (by omega)]
   simp only [Nat.zero_mul, w_gets_zero, List.length_nil, Nat.beq]
   rw [qW hb, qW (by omega)]
   refine ⟨_, _, _, _, rfl, .inr ⟨h.n, false, Blk.of news, k0, by rw [Nat.zero_add], hn, by rw [qH rfl]; rfl, rfl, rfl, xK _ rfl⟩, by simp, fun b hb => by rw [qC (by omega)], (fun b hb => by cases hb), fun b hb _ => by rw [qC (by omega)], fun b hb => by cases hb⟩
 ·have hlt := Heap.lt_of_get hb'
  simp only [appE, hx, hf]
  rw [zL hm]
  by_cases k0 : news = []
  ·subst k0
   rw [qW (by simp)]
   simp only [xY, hb', List.length_nil, allOne, hr, List.append_nil, Nat.add_zero]
   rw [qW (by omega)]
   refine ⟨_, _, _, _, rfl, .inr ⟨b, ex, c.jL (0 + l.length * 1) [], h0, rfl, hb0, by rw [qF hlt rfl], by rw [Blk.jR]; exact hs, by rw [Blk.yU]; exact hr, ?_⟩, by simp, fun b' hb' => by rw [qB hlt (by omega)], (fun b' hb' => by simp at hb'; omega), fun b' _ hb' => by rw [qB hlt (by simp at hb'; omega)], fun b' hx' => by simp at hx'; exact ⟨c, by rw [hx']; exact hb'⟩⟩
   rw [Blk.putA_short _ _ (by simp)]
   exact hg
  ·have hp := List.length_pos_iff.2 k0
   rw [w_ble_f (by omega)]
   simp only [kT, hb']
   rw [qW (by omega)]
   simp only [Nat.mul_one, hg]
   rw [zL rfl, qW (by omega), qW (by omega)]
   have hne : l ++ news ≠ [] := by simp [h0]
   have hll : (l ++ news).length = l.length + news.length := by simp
   cases ex with
   | true =>
    refine ⟨_, _, _, _, rfl, .inr ⟨h.n, false, Blk.of (l ++ news), hne, by rw [hll], hn, by rw [qH rfl], rfl, rfl, xK _ rfl⟩, by simp, fun b' hb' => by rw [qC (by omega)], (fun b hb => by cases hb), fun b' hb' _ => by rw [qC (by omega)], fun b hb => by cases hb⟩
   | false =>
    simp only [yM, hb', h1, hr]
    rw [zL (rfl : e = e), zL (by omega)]
    refine ⟨_, _, _, _, rfl, .inr ⟨h.n, false, Blk.of (l ++ news), hne, by rw [hll], hn, by rw [qH (by simp)], rfl, rfl, xK _ rfl⟩, by simp, fun b' hb' => by rw [qC (by rw [Heap.n_set]; omega), qB hlt (by omega)], (fun b' hb' => by simp at hb'; omega), fun b' h1' hb' => by rw [qC (by rw [Heap.n_set]; omega), qB hlt (by simp at hb'; omega)], fun b' hx' => by simp at hx'; exact ⟨c, by rw [hx']; exact hb'⟩⟩
theorem yO {h : Heap} {b : Nat} {x : V} {e : TypeId} (hb : h.get b = some (.cells (Blk.of [x]) e)) : kT h 1 [x].length (.slice (some (b, 0)) 1 1 true) = some ([x], [b]) := by
 simp only [kT, hb]
 rw [qW (by simp [Blk.of])]
 rfl
end Go.Vm
set_option maxRecDepth 100000
set_option linter.unusedVariables false
namespace Go.Vm
def LRs (sz : Nat) (h : Heap) (R : Set') (v : V) (n : Nat) (l : List V) : Prop := l.length = n * sz ∧ ((n = 0 ∧ (v = .slice none 0 0 true ∨ ∃ a, v = .esl a)) ∨ ∃ b o cap ex c ce, v = .slice (some (b, o)) n cap ex ∧ R b ∧ h.get b = some (.cells c ce) ∧ o + n * sz ≤ c.size ∧ c.gets o (n * sz) = l)
def OwnS (sz n0 : Nat) (h : Heap) (v : V) (n : Nat) (l : List V) (e : TypeId) : Prop := l.length = n * sz ∧ ((n = 0 ∧ (v = .slice none 0 0 true ∨ ∃ b c, v = .slice (some (b, 0)) 0 0 true ∧ n0 ≤ b ∧ h.get b = some (.cells c e) ∧ c.ro = false)) ∨ ∃ b x c, n ≠ 0 ∧ v = .slice (some (b, 0)) n n x ∧ n0 ≤ b ∧ h.get b = some (.cells c e) ∧ c.size = n * sz ∧ c.ro = false ∧ c.gets 0 (n * sz) = l)
end Go.Vm
set_option linter.unusedVariables false
namespace Go.Vm
open Go.Proofs Go.Shelf
variable {P : Program}

end Go.Vm
