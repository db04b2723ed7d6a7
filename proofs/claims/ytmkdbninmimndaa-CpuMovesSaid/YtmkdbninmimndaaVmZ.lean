/- Walks with what is still to do laid out as data. -/
import Derived.Test.YtmkdbninmimndaaVmY
import Derived.Test.YtmkdbninmimndaaVmTY
set_option linter.unusedVariables false
set_option linter.unusedSimpArgs false
namespace Go.Vm
variable {P : Program} {M : MP}

inductive It where
  | ops (l : List LO)
  | code (c : LC)
  | blk (id : Nat)

def resume (M : MP) (R W : Set') (rd : Option Nat) (Q : Ex → Fr → Heap → Prop) : List It → Ex → Fr → Heap → Prop
  | [], e, f, h => Q e f h
  | .blk id :: t, e, f, h => match e with
    | .norm => resume M R W rd Q t .norm f h
    | .exit id' => match Nat.beq id' id with
      | true => resume M R W rd Q t .norm f h
      | false => resume M R W rd Q t (.exit id') f h
    | .ret => resume M R W rd Q t .ret f h
  | .ops l :: t, e, f, h => match e with
    | .norm => LOps M R W l f.tm h fun tm h' => resume M R W rd Q t .norm ⟨tm, f.mks⟩ h'
    | .exit id => resume M R W rd Q t (.exit id) f h
    | .ret => resume M R W rd Q t .ret f h
  | .code c :: t, e, f, h => match e with
    | .norm => LS M R W rd c f h (resume M R W rd Q t)
    | .exit id => resume M R W rd Q t (.exit id) f h
    | .ret => resume M R W rd Q t .ret f h

section
variable (R W : Set') (rd : Option Nat) (Q : Ex → Fr → Heap → Prop) (t : List It) (f : Fr) (h : Heap)
def GO (M : MP) (R W : Set') (rd : Option Nat) (Q : Ex → Fr → Heap → Prop) (t : List It) (f : Fr) (h : Heap) : Prop := resume M R W rd Q t .norm f h
def GCall (M : MP) (R W : Set') (rd : Option Nat) (Q : Ex → Fr → Heap → Prop) (g : FuncId) (vs : List V) (d : Option Tmp) (l : List LO) (t : List It) (f : Fr) (h : Heap) : Prop :=
  SF M g vs h R W fun v h' => GO M R W rd Q (.ops l :: t) ⟨f.tm.put d v, f.mks⟩ h'
def GYield (M : MP) (R W : Set') (rd : Option Nat) (Q : Ex → Fr → Heap → Prop) (y : Nat) (vs : List V) (d : Option Tmp) (l : List LO) (t : List It) (f : Fr) (h : Heap) : Prop :=
  SY M y vs h R W fun v h' => GO M R W rd Q (.ops l :: t) ⟨f.tm.put d v, f.mks⟩ h'
def GLoop (M : MP) (R W : Set') (rd : Option Nat) (Q : Ex → Fr → Heap → Prop) (c : LC) (t : List It) (f : Fr) (h : Heap) : Prop :=
  ∀ c', low c' = c → SL M R W rd c' f h (resume M R W rd Q t)
def GRange (M : MP) (R W : Set') (rd : Option Nat) (Q : Ex → Fr → Heap → Prop) (g : Operand) (ps : Array Tmp) (a b : Code) (t : List It) (f : Fr) (h : Heap) : Prop := SRange M R W rd g ps a b f h (resume M R W rd Q t)
def GRows (M : MP) (R W : Set') (rd : Option Nat) (Q : Ex → Fr → Heap → Prop) (l : List LO) (ps : List (Nat × Nat)) (n : Nat) (rows : List RowP) (t : List It) (f : Fr) (h : Heap) : Prop :=
  LRows M.P l f.tm h rows fun tm' h' rows => pairsP rows ps ∧ footP R W n rows ∧ GO M R W rd Q t ⟨tm', f.mks⟩ h'
def GCallD (M : MP) (R W : Set') (rd : Option Nat) (Q : Ex → Fr → Heap → Prop) (g : FuncId) (vs : List V) (d : Option Tmp) (l : List LO) (ps : List (Nat × Nat)) (n : Nat) (rows : List RowP) (t : List It) (f : Fr) (h : Heap) : Prop :=
  ∃ R' W', SF (M.P : MP) g vs h R' W' fun v h' => GRows M R W rd Q l ps n (rows ++ [⟨R', W', h.n, h'.n⟩]) t ⟨f.tm.put d v, f.mks⟩ h'

theorem go_nil : GO M R W rd Q [] f h = Q .norm f h := rfl
theorem go_seq (a b : LC) : GO M R W rd Q (.code (.seq a b) :: t) f h = GO M R W rd Q (.code a :: .code b :: t) f h := by
  show LS M R W rd a f h _ = LS M R W rd a f h _
  congr 1
theorem go_ops (l : List LO) : GO M R W rd Q (.code (.ops l) :: t) f h = GO M R W rd Q (.ops l :: t) f h := rfl
theorem go_skip : GO M R W rd Q (.code .skip :: t) f h = GO M R W rd Q t f h := rfl
theorem go_block (id : Nat) (c : LC) : GO M R W rd Q (.code (.block id c) :: t) f h = GO M R W rd Q (.code c :: .blk id :: t) f h := by
  show LS M R W rd c f h _ = LS M R W rd c f h _
  congr 1
theorem go_blk (id : Nat) : GO M R W rd Q (.blk id :: t) f h = GO M R W rd Q t f h := rfl
theorem go_cond (c : Operand) (a b : LC) : GO M R W rd Q (.code (.cond c a b) :: t) f h = match evV f.tm c with
    | some (.bool x) => match x with
      | true => GO M R W rd Q (.code a :: t) f h
      | false => GO M R W rd Q (.code b :: t) f h
    | _ => False := rfl
theorem go_loop (c : LC) : GO M R W rd Q (.code (.loop c) :: t) f h = GLoop M R W rd Q c t f h := rfl
theorem go_range (g : Operand) (ps : Array Tmp) (a b : Code) : GO M R W rd Q (.code (.range g ps a b) :: t) f h = GRange M R W rd Q g ps a b t f h := rfl
theorem go_exit (id : Nat) : GO M R W rd Q (.code (.exit id) :: t) f h = resume M R W rd Q t (.exit id) f h := rfl
theorem resume_exit_nil (id : Nat) : resume M R W rd Q [] (.exit id) f h = Q (.exit id) f h := rfl
theorem resume_exit_ops (id : Nat) (l : List LO) : resume M R W rd Q (.ops l :: t) (.exit id) f h = resume M R W rd Q t (.exit id) f h := rfl
theorem resume_exit_code (id : Nat) (c : LC) : resume M R W rd Q (.code c :: t) (.exit id) f h = resume M R W rd Q t (.exit id) f h := rfl
theorem resume_exit_blk (id id' : Nat) : resume M R W rd Q (.blk id' :: t) (.exit id) f h = if id = id' then GO M R W rd Q t f h else resume M R W rd Q t (.exit id) f h := by
  show (match Nat.beq id id' with | true => _ | false => _) = _
  cases hb : Nat.beq id id' with
  | true => rw [if_pos (Nat.eq_of_beq_eq_true hb)]; rfl
  | false => rw [if_neg fun e => by subst e; simp at hb]
theorem resume_ret : resume M R W rd Q t .ret f h = Q .ret f h := by
  induction t with
  | nil => rfl
  | cons x t ih => cases x <;> exact ih
theorem resume_norm : resume M R W rd Q t .norm f h = GO M R W rd Q t f h := rfl
theorem go_ret : GO M R W rd Q (.code .ret :: t) f h = Q .ret f h := resume_ret R W rd Q t f h
theorem go_ops_nil : GO M R W rd Q (.ops [] :: t) f h = GO M R W rd Q t ⟨f.tm, f.mks⟩ h := rfl
theorem go_ops_cons (d : Option Tmp) (op : Op) (l : List LO) : GO M R W rd Q (.ops (⟨d, op, none⟩ :: l) :: t) f h = LOp M R W f.tm h op fun v h' => GO M R W rd Q (.ops l :: t) ⟨f.tm.put d v, f.mks⟩ h' := rfl
theorem go_ops_guard (d : Option Tmp) (op : Op) (tt : Tmp) (want : Bool) (l : List LO) : GO M R W rd Q (.ops (⟨d, op, some (tt, want)⟩ :: l) :: t) f h = match wantL f.tm (some (tt, want)) with
    | some true => GO M R W rd Q (.ops (⟨d, op, none⟩ :: l) :: t) f h
    | some false => GO M R W rd Q (.ops l :: t) ⟨f.tm.put d undefV, f.mks⟩ h
    | none => False := rfl
theorem go_call (d : Option Tmp) (g : FuncId) (args : Array Operand) (ts : Array TypeId) (l : List LO) : GO M R W rd Q (.ops (⟨d, .call ⟨.value (.func g), args, ts⟩, none⟩ :: l) :: t) f h = match evVs f.tm args.toList with
    | some vs => callable M.P g = true ∧ GCall M R W rd Q g vs d l t f h
    | none => False := by
  rw [go_ops_cons, LOp_call]; cases evVs f.tm args.toList <;> rfl
theorem go_callv (d : Option Tmp) (x : Tmp) (args : Array Operand) (ts : Array TypeId) (l : List LO) : GO M R W rd Q (.ops (⟨d, .call ⟨.value (.tmp x), args, ts⟩, none⟩ :: l) :: t) f h = match f.tm.get x with
    | some (.func g xs ys) => (match evVs f.tm args.toList with
      | some vs => callable M.P g = true ∧ GCall M R W rd Q g ((xs ++ vs) ++ ys) d l t f h
      | none => False)
    | some (.yield y) => (match evVs f.tm args.toList with
      | some vs => GYield M R W rd Q y vs d l t f h
      | none => False)
    | _ => False := by
  rw [go_ops_cons, LOp_callv, evV_tmp]
  cases f.tm.get x with
  | none => rfl
  | some a => cases a <;> first | rfl | (cases evVs f.tm args.toList <;> rfl)
theorem go_invoke (d : Option Tmp) (x : Tmp) (name : String) (args : Array Operand) (ts : Array TypeId) (l : List LO) : GO M R W rd Q (.ops (⟨d, .call ⟨.invoke (.tmp x) name, args, ts⟩, none⟩ :: l) :: t) f h = match f.tm.get x with
    | some (.iface ty v) => (match methV M.P ty name with
      | some g => (match evVs f.tm args.toList with
        | some vs => callable M.P g = true ∧ GCall M R W rd Q g (v :: vs) d l t f h
        | none => False)
      | none => False)
    | _ => False := by
  rw [go_ops_cons, LOp_invoke, evV_tmp]
  cases f.tm.get x with
  | none => rfl
  | some a => cases a <;> first | rfl | (simp only []; cases methV M.P _ name <;> first | rfl | (cases evVs f.tm args.toList <;> rfl))
theorem go_draw (l : List LO) (ps : List (Nat × Nat)) : GO M R W rd Q (.code (.draw l ps) :: t) f h = GRows M R W rd Q l ps h.n [] t f h := rfl
theorem grows_nil (ps : List (Nat × Nat)) (n : Nat) (rows : List RowP) : GRows M R W rd Q [] ps n rows t f h = (pairsP rows ps ∧ footP R W n rows ∧ GO M R W rd Q t ⟨f.tm, f.mks⟩ h) := rfl
theorem grows_cons (d : Option Tmp) (op : Op) (l : List LO) (ps : List (Nat × Nat)) (n : Nat) (rows : List RowP) : GRows M R W rd Q (⟨d, op, none⟩ :: l) ps n rows t f h = LOpD M.P f.tm h op fun v h' R' W' => GRows M R W rd Q l ps n (rows ++ [⟨R', W', h.n, h'.n⟩]) t ⟨f.tm.put d v, f.mks⟩ h' := rfl
theorem grows_guard (d : Option Tmp) (op : Op) (tt : Tmp) (want : Bool) (l : List LO) (ps : List (Nat × Nat)) (n : Nat) (rows : List RowP) : GRows M R W rd Q (⟨d, op, some (tt, want)⟩ :: l) ps n rows t f h = match wantL f.tm (some (tt, want)) with
    | some true => GRows M R W rd Q (⟨d, op, none⟩ :: l) ps n rows t f h
    | some false => GRows M R W rd Q l ps n (rows ++ [⟨fun _ => False, fun _ => False, h.n, h.n⟩]) t ⟨f.tm.put d undefV, f.mks⟩ h
    | none => False := rfl
theorem grows_call (d : Option Tmp) (g : FuncId) (args : Array Operand) (ts : Array TypeId) (l : List LO) (ps : List (Nat × Nat)) (n : Nat) (rows : List RowP) : GRows M R W rd Q (⟨d, .call ⟨.value (.func g), args, ts⟩, none⟩ :: l) ps n rows t f h = match evVs f.tm args.toList with
    | some vs => callable M.P g = true ∧ GCallD M R W rd Q g vs d l ps n rows t f h
    | none => False := by
  rw [grows_cons, LOpD_call]; cases evVs f.tm args.toList <;> rfl
theorem grows_invoke (d : Option Tmp) (x : Tmp) (name : String) (args : Array Operand) (ts : Array TypeId) (l : List LO) (ps : List (Nat × Nat)) (n : Nat) (rows : List RowP) : GRows M R W rd Q (⟨d, .call ⟨.invoke (.tmp x) name, args, ts⟩, none⟩ :: l) ps n rows t f h = match f.tm.get x with
    | some (.iface ty v) => (match methV M.P ty name with
      | some g => (match evVs f.tm args.toList with
        | some vs => callable M.P g = true ∧ GCallD M R W rd Q g (v :: vs) d l ps n rows t f h
        | none => False)
      | none => False)
    | _ => False := by
  rw [grows_cons, LOpD_invoke, evV_tmp]
  cases f.tm.get x with
  | none => rfl
  | some a => cases a <;> first | rfl | (simp only []; cases methV M.P _ name <;> first | rfl | (cases evVs f.tm args.toList <;> rfl))
end
attribute [go_sem ↓] go_nil go_seq go_ops go_skip go_block go_blk go_cond go_loop go_range go_exit go_ret go_ops_nil go_ops_cons go_ops_guard resume_exit_nil resume_exit_ops resume_exit_code resume_exit_blk resume_ret resume_norm go_draw grows_nil grows_cons grows_guard
attribute [go_sem ↓ high] go_call go_callv grows_call go_invoke grows_invoke

/-! ### using contracts -/
theorem GCall.of {R W : Set'} {rd : Option Nat} {Q : Ex → Fr → Heap → Prop} {g : FuncId} {vs : List V} {d : Option Tmp} {l : List LO} {t : List It} {f : Fr} {h : Heap} {K : V → Heap → Prop} (hc : SF M g vs h R W K) (hk : ∀ v h', K v h' → GO M R W rd Q (.ops l :: t) ⟨f.tm.put d v, f.mks⟩ h') : GCall M R W rd Q g vs d l t f h := hc.mono hk
theorem GCallD.of {R W R' W' : Set'} {rd : Option Nat} {Q : Ex → Fr → Heap → Prop} {g : FuncId} {vs : List V} {d : Option Tmp} {l : List LO} {ps : List (Nat × Nat)} {n : Nat} {rows : List RowP} {t : List It} {f : Fr} {h : Heap} {K : V → Heap → Prop} (hc : SF (M.P : MP) g vs h R' W' K)
    (hk : ∀ v h', K v h' → GRows M R W rd Q l ps n (rows ++ [⟨R', W', h.n, h'.n⟩]) t ⟨f.tm.put d v, f.mks⟩ h') : GCallD M R W rd Q g vs d l ps n rows t f h := ⟨R', W', hc.mono hk⟩
def Fin (M : MP) (R W : Set') (rs : List ResultVar) (Q : V → Heap → Prop) (e : Ex) (f : Fr) (h : Heap) : Prop := match e with
  | .exit _ => False
  | _ => takeH W f.mks h fun h2 => match evRes M.P f.tm h2 rs with
    | some (vs, rr) => allB R rr ∧ Q (retV vs) h2
    | none => False
theorem fin_ret (R W : Set') (rs : List ResultVar) (Q : V → Heap → Prop) (tm : Tm) (h : Heap) : Fin M R W rs Q .ret ⟨tm, []⟩ h = match evRes M.P tm h rs with
    | some (vs, rr) => allB R rr ∧ Q (retV vs) h
    | none => False := rfl
theorem fin_norm (R W : Set') (rs : List ResultVar) (Q : V → Heap → Prop) (tm : Tm) (h : Heap) : Fin M R W rs Q .norm ⟨tm, []⟩ h = match evRes M.P tm h rs with
    | some (vs, rr) => allB R rr ∧ Q (retV vs) h
    | none => False := rfl
theorem fin_ret_marks (R W : Set') (rs : List ResultVar) (Q : V → Heap → Prop) (tm : Tm) (b : Nat) (bs : List Nat) (h : Heap) : Fin M R W rs Q .ret ⟨tm, b :: bs⟩ h = takeH W (b :: bs) h fun h2 => match evRes M.P tm h2 rs with
    | some (vs, rr) => allB R rr ∧ Q (retV vs) h2
    | none => False := rfl
theorem fin_norm_marks (R W : Set') (rs : List ResultVar) (Q : V → Heap → Prop) (tm : Tm) (b : Nat) (bs : List Nat) (h : Heap) : Fin M R W rs Q .norm ⟨tm, b :: bs⟩ h = takeH W (b :: bs) h fun h2 => match evRes M.P tm h2 rs with
    | some (vs, rr) => allB R rr ∧ Q (retV vs) h2
    | none => False := rfl
attribute [go_sem ↓] fin_ret fin_norm fin_ret_marks fin_norm_marks
/-- A function. -/
theorem SF.go (hm : M.P.follows .mixedOrders = true) {f : FuncId} {fn : Func} {args : List V} {h : Heap} {R W : Set'} {Q : V → Heap → Prop} {ir : LC} {n : Nat} {rs : List ResultVar} (hf : M.P.funcs[f]? = some fn)
    (hir : (fn.body.map Vm.low, fn.ntmps, fn.results.toList) = (some ir, n, rs))
    (hs : GO M (fun b => h.n ≤ b ∨ R b) (fun b => h.n ≤ b ∨ W b) none (Fin M (fun b => h.n ≤ b ∨ R b) (fun b => h.n ≤ b ∨ W b) rs Q) [.code ir] ⟨initTm n args, []⟩ h) : SF M f args h R W Q :=
  SF.low hm hf hir hs
/-- A loop. -/
theorem GLoop.inv (hm : M.P.follows .mixedOrders = true) {R W : Set'} {rd : Option Nat} {c : LC} {t : List It} {Q : Ex → Fr → Heap → Prop} (I : Nat → Fr → Heap → Prop) (k : Nat) {f : Fr} {h : Heap} (h0 : I k f h)
    (hI : ∀ k f h, I k f h → GO M R W rd (fun e f' h' => match e with
      | .norm => ∃ k', k' < k ∧ I k' f' h'
      | .exit id => resume M R W rd Q t (.exit id) f' h'
      | .ret => Q .ret f' h') [.code c] f h) : GLoop M R W rd Q c t f h := by
  intro c' hc
  refine SL.low hm hc I (fun k f h hi => ?_) k f h h0
  have := hI k f h hi
  have e : (fun e f' h' => match e with
      | .norm => ∃ k', k' < k ∧ I k' f' h'
      | .exit id => resume M R W rd Q t (.exit id) f' h'
      | .ret => Q .ret f' h') = Ex.next (fun f' h' => ∃ k', k' < k ∧ I k' f' h') (resume M R W rd Q t) := by
    funext e f' h'
    cases e
    · rfl
    · rfl
    · exact (resume_ret R W rd Q t f' h').symm
  rw [e] at this
  exact this

/-- A range over a function, not within another one's round. -/
theorem GRange.outer {R W : Set'} {Q : Ex → Fr → Heap → Prop} {g : Operand} {ps : Array Tmp} {a b : Code} {t : List It} {f : Fr} {h : Heap} {k : FuncId} {xs ys : List V} (hg : evV f.tm g = some (.func k xs ys)) (hc : callable M.P k = true)
    (hs : SF M k ((xs ++ [.yield (h.n + 1)]) ++ ys) ((h.push (.deferred true)).push (.loop ⟨.ready, none, f.tm, ps.toList, a, b, h.n⟩)) R W fun _ h2 => ∃ lv, h2.get (h.n + 1) = some (.loop lv) ∧ lv.state ≠ .busy ∧ W (h.n + 1) ∧
      (match lv.pending with
      | none => GO M R W none Q t ⟨f.tm, h.n :: f.mks⟩ (h2.set (h.n + 1) (.loop { lv with state := .exhausted }))
      | some .ret => Q .ret ⟨f.tm, h.n :: f.mks⟩ (h2.set (h.n + 1) (.loop { lv with state := .exhausted }))
      | some (.exit id) => resume M R W none Q t (.exit id) ⟨f.tm, h.n :: f.mks⟩ (h2.set (h.n + 1) (.loop { lv with state := .exhausted }))
      | _ => False)) : GRange M R W none Q g ps a b t f h := by
  unfold GRange SRange
  rw [hg]
  refine ⟨hc, hs.mono fun v h2 ⟨lv, h1, h2', h3, h4⟩ => ?_⟩
  unfold SEnd
  rw [h1]
  refine ⟨h2', h3, ?_⟩
  split at h4
  · rename_i hp; simp only [hp] at h4 ⊢; exact h4
  · rename_i hp; simp only [hp, resume_ret] at h4 ⊢; exact h4
  · rename_i id hp; simp only [hp] at h4 ⊢; exact h4
  · exact h4.elim
theorem GYield.of {R W : Set'} {rd : Option Nat} {Q : Ex → Fr → Heap → Prop} {y : Nat} {vs : List V} {d : Option Tmp} {l : List LO} {t : List It} {f : Fr} {h : Heap} {K : V → Heap → Prop} (hc : SY M y vs h R W K) (hk : ∀ v h', K v h' → GO M R W rd Q (.ops l :: t) ⟨f.tm.put d v, f.mks⟩ h') : GYield M R W rd Q y vs d l t f h := hc.mono hk
/-- A round, from the loop's own code struck bare. -/
theorem SY.go {P : Program} (hm : P.follows .mixedOrders = true) {l : Nat} {args : List V} {h : Heap} {R W : Set'} {Q : V → Heap → Prop} {lv : Loopv} {tm : Tm} {ca cb : LC} (hg : h.get l = some (.loop lv)) (hR : R l) (hW : W l)
    (htm : setPs lv.tmps lv.params args = some tm) (ha : Vm.low lv.assign = ca) (hb : Vm.low lv.body = cb)
    (hs : GO ⟨P, true⟩ R W (some l) (fun e f1 h1 => e = .norm ∧ ∃ lv1, h1.get l = some (.loop lv1) ∧ lv1.state = .ready ∧ GO ⟨P, true⟩ R W (some l) (fun e f2 h2 => ∃ lv2, h2.get l = some (.loop lv2) ∧ Q (.bool e.jump.isNone) (h2.set l (.loop { lv2 with state := if e.jump.isNone then .ready else .done, pending := e.jump })))
      [.code cb] f1 (h1.set l (.loop { lv1 with state := .busy }))) [.code ca] ⟨tm, []⟩ h) : SY ⟨P, true⟩ l args h R W Q := by
  subst ha hb
  refine SY.of_body hm hg hR hW htm (LS_S lv.assign _ _ _ _ ?_ hs)
  rintro e f1 h1 ⟨rfl, lv1, h2, h3, h4⟩
  exact ⟨rfl, lv1, h2, h3, LS_S lv.body _ _ _ _ (fun _ _ _ hq => hq) h4⟩
attribute [irreducible] GO resume GCall GYield GLoop GRange GRows GCallD Fin
end Go.Vm
