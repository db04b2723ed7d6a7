/- The virtual machine's operations with calls among them, one behind the other. -/
import Derived.Test.YtmkdbninmimndaaVmK
set_option linter.unusedVariables false
set_option linter.unusedSimpArgs false
namespace Go.Vm
variable {P : Program}

structure St where
  h : Heap
  n0 : Nat
  fr : List Nat
  fw : List Nat
def addF (n0 : Nat) : List Nat → List Nat → List Nat
  | [], acc => acc
  | b :: r, acc => match Nat.blt b n0 with
    | true => b :: addF n0 r acc
    | false => addF n0 r acc
theorem mem_addF {n0 b : Nat} : ∀ {l acc : List Nat}, b ∈ addF n0 l acc ↔ (b ∈ l ∧ b < n0) ∨ b ∈ acc
  | [], acc => by simp [addF]
  | c :: r, acc => by
    unfold addF
    split
    · rename_i hb
      have hb := Nat.blt_eq.mp hb
      simp only [List.mem_cons, mem_addF]
      constructor
      · rintro (rfl | ⟨h1, h2⟩ | h3)
        · exact .inl ⟨.inl rfl, hb⟩
        · exact .inl ⟨.inr h1, h2⟩
        · exact .inr h3
      · rintro (⟨rfl | h1, h2⟩ | h3)
        · exact .inl rfl
        · exact .inr (.inl ⟨h1, h2⟩)
        · exact .inr (.inr h3)
    · rename_i hb
      have hb : ¬ c < n0 := fun h => by rw [blt_true h] at hb; cases hb
      simp only [List.mem_cons, mem_addF]
      constructor
      · rintro (⟨h1, h2⟩ | h3)
        · exact .inl ⟨.inr h1, h2⟩
        · exact .inr h3
      · rintro (⟨rfl | h1, h2⟩ | h3)
        · exact absurd h2 hb
        · exact .inl ⟨h1, h2⟩
        · exact .inr h3
def St.add (s : St) (h : Heap) (r w : List Nat) : St := ⟨h, s.n0, addF s.n0 r s.fr, addF s.n0 w s.fw⟩
def St.R (s : St) : Set' := fun b => s.n0 ≤ b ∨ b ∈ s.fr
def St.W (s : St) : Set' := fun b => s.n0 ≤ b ∨ b ∈ s.fw
structure St.le (s t : St) : Prop where
  n0 : t.n0 = s.n0
  fr : ∀ b, b ∈ s.fr → b ∈ t.fr
  fw : ∀ b, b ∈ s.fw → b ∈ t.fw
theorem St.le_refl (s : St) : s.le s := ⟨rfl, fun _ h => h, fun _ h => h⟩
theorem St.le_trans {s t u : St} (h : s.le t) (h' : t.le u) : s.le u := ⟨h'.n0.trans h.n0, fun b hb => h'.fr b (h.fr b hb), fun b hb => h'.fw b (h.fw b hb)⟩
theorem St.le.R {s t : St} (h : s.le t) : ∀ b, s.R b → t.R b := fun b hb => hb.imp (fun e => by rw [h.n0]; exact e) (h.fr b)
theorem St.le.W {s t : St} (h : s.le t) : ∀ b, s.W b → t.W b := fun b hb => hb.imp (fun e => by rw [h.n0]; exact e) (h.fw b)
theorem St.le_add (s : St) (h : Heap) (r w : List Nat) : s.le (s.add h r w) := ⟨rfl, fun b hb => mem_addF.2 (.inr hb), fun b hb => mem_addF.2 (.inr hb)⟩
theorem St.add_R (s : St) (h : Heap) (r w : List Nat) : ∀ b, b ∈ r → (s.add h r w).R b := fun b hb => by
  rcases Nat.lt_or_ge b s.n0 with h' | h'
  · exact .inr (mem_addF.2 (.inl ⟨hb, h'⟩))
  · exact .inl h'
theorem St.add_W (s : St) (h : Heap) (r w : List Nat) : ∀ b, b ∈ w → (s.add h r w).W b := fun b hb => by
  rcases Nat.lt_or_ge b s.n0 with h' | h'
  · exact .inr (mem_addF.2 (.inl ⟨hb, h'⟩))
  · exact .inl h'

inductive Tgt where
  | fn (f : FuncId)
  | yield (l : Nat)
abbrev InvT := Tgt → List V → St → Option (V × St)
structure InvGood (P : Program) (inv : InvT) : Prop where
  le : ∀ t args s v s', inv t args s = some (v, s') → s.le s'
  fn : ∀ f args s v s', inv (.fn f) args s = some (v, s') → FnOk P f args s.h v s'.h s'.R s'.W
  yield : ∀ l args s v s', inv (.yield l) args s = some (v, s') → RoundOk P l args s.h v s'.h s'.R s'.W

def callable (P : Program) (f : FuncId) : Bool := match P.funcs[f]? with
  | some fn => match fn.body with
    | some _ => match fn.name == "runtime.NumGoroutine" with
      | true => false
      | false => true
    | none => false
  | none => false
theorem run_callable {f : FuncId} (h : callable P f = true) (args : Array Value) (w : World) : (callFunc f args).run P w = .ok (.enter f args) w := by
  unfold callable at h
  split at h
  · rename_i fn hf
    split at h
    · rename_i c hb
      split at h
      · cases h
      · rename_i hn
        have hn' : ¬ fn.name = "runtime.NumGoroutine" := fun e => by simp [e] at hn
        simp [callFunc, program, Sem.run, hf, hb, hn']
    · cases h
  · cases h

/-- The method of a type that has it itself. -/
def methV (P : Program) (t : TypeId) (name : String) : Option FuncId := match P.info? t with
  | some i => match i.methods.find? (·.name == name) with
    | some m => match m.path.toList, m.func with
      | [], some (f, p) => match P.underlying t, p with
        | some (.pointer _), true => some f
        | some (.pointer _), false => none
        | some _, false => some f
        | _, _ => none
      | _, _ => none
    | none => none
  | none => none
theorem run_methV {t : TypeId} {name : String} {f : FuncId} (h : methV P t name = some f) (v : Value) (w : World) (n : Nat) : (method (n + 1) t v name).run P w = .ok (f, v) w := by
  unfold methV at h
  split at h
  · rename_i i hi
    split at h
    · rename_i m hm
      split at h
      · rename_i g p hp hf
        split at h
        · rename_i e hu
          cases h
          simp [method, typeInfo, hi, hm, hp, follow, hf, receiverAt, run_underlying hu, Place.get]
        · cases h
        · rename_i d hnp hu
          cases h
          simp only [method, typeInfo]
          simp [hi, hm, hp, follow, hf, receiverAt, run_underlying hu]
          cases d <;> first | exact absurd rfl (hnp _) | simp [Place.get] | skip
        · cases h
      · cases h
    · cases h
  · cases h
def evOp (P : Program) (inv : InvT) (tm : Tm) (s : St) (o : Oper) : Option (V × St) := match o.op with
  | .call { callee := .value f, args, .. } => match evV tm f with
    | some (.func g xs ys) => match evVs tm args.toList with
      | some vs => match callable P g with
        | true => inv (.fn g) ((xs ++ vs) ++ ys) s
        | false => none
      | none => none
    | some (.yield l) => match evVs tm args.toList with
      | some vs => inv (.yield l) vs s
      | none => none
    | _ => none
  | .call { callee := .invoke r name, args, .. } => match evV tm r with
    | some (.iface t v) => match methV P t name with
      | some g => match evVs tm args.toList with
        | some vs => match callable P g with
          | true => inv (.fn g) (v :: vs) s
          | false => none
        | none => none
      | none => none
    | _ => none
  | _ => match evP P tm s.h o with
    | some pr => some (pr.v, s.add pr.h pr.r pr.w)
    | none => none

theorem reL_append (σ : Ren) (a b : List V) : V.reL σ (a ++ b) = V.reL σ a ++ V.reL σ b := by simp [V.reL_eq]
theorem onL_append {σ : Ren} {a b : List V} (ha : V.onL σ a) (hb : V.onL σ b) : V.onL σ (a ++ b) := by
  rw [V.onL_iff] at *
  intro v hv
  rcases List.mem_append.1 hv with h | h
  · exact ha v h
  · exact hb v h

theorem evOp_ok {inv : InvT} (hi : InvGood P inv) {tm : Tm} {s s' : St} {o : Oper} {v : V} (hv : evOp P inv tm s o = some (v, s')) :
    s.le s' ∧ ∀ rd, OpOk P rd o tm s.h v s'.h s'.R s'.W := by
  unfold evOp at hv
  split at hv
  · rename_i f args ts ho
    have hnd : ∀ c, o.op ≠ .defer c := by intro c e; rw [ho] at e; cases e
    split at hv
    · rename_i g xs ys hf
      split at hv
      · rename_i vs hvs
        split at hv
        · rename_i hc
          have h1 := hi.fn _ _ _ _ _ hv
          refine ⟨hi.le _ _ _ _ _ hv, fun rd => ⟨h1.1, fun H σ w a K Q p he hK => ?_⟩⟩
          have e1 := he f (by simp [ho, Op.operands, Call.operands]) _ hf
          have e2 := evVs_rel (ρ := a.eval) args.toList vs (fun x hx => he x (by simp only [ho, Op.operands, Call.operands, Array.mem_append]; exact .inr (Array.mem_toList_iff.1 hx))) hvs
          have ea : args.map a.eval = (V.reL σ vs).toArray := by rw [← e2.2, ← Array.toList_map, Array.toArray_toList]
          refine ⟨fun _ _ => trivial, ?_⟩
          rw [Oper.semAt_eq _ _ _ hnd]
          have hrun : (execOp a.eval o).run P w = .ok (.enter g (V.reL σ ((xs ++ vs) ++ ys)).toArray) w := by
            simp only [execOp, ho, resolve, e1.2, V.re, Deferred.ofValue, Sem.run_bind, Sem.run_pure, Result.andThen_ok, invoke, ea]
            rw [run_callable hc]
            simp [reL_append]
          rw [hrun]
          refine ⟨fun h => (by cases h), ?_⟩
          refine CallsIn.mono (h1.2 H σ w p (onL_append (onL_append e1.1.1 e2.1) e1.1.2)) ?_
          rintro e w' ⟨x, σ', H', rfl, h2, h3⟩
          exact hK x σ' H' w' h2 h3
        · cases hv
      · cases hv
    · rename_i l hf
      split at hv
      · rename_i vs hvs
        have h1 := hi.yield _ _ _ _ _ hv
        refine ⟨hi.le _ _ _ _ _ hv, fun rd => ⟨h1.1, fun H σ w a K Q p he hK => ?_⟩⟩
        have e1 := he f (by simp [ho, Op.operands, Call.operands]) _ hf
        have e2 := evVs_rel (ρ := a.eval) args.toList vs (fun x hx => he x (by simp only [ho, Op.operands, Call.operands, Array.mem_append]; exact .inr (Array.mem_toList_iff.1 hx))) hvs
        have ea : args.map a.eval = (V.reL σ vs).toArray := by rw [← e2.2, ← Array.toList_map, Array.toArray_toList]
        obtain ⟨fn, tmps, assign, body, h2, h3⟩ := h1.2 H σ w p e2.1 e1.1
        refine ⟨fun _ _ => trivial, ?_⟩
        rw [Oper.semAt_eq _ _ _ hnd]
        have hrun : (execOp a.eval o).run P w = .ok (.round (σ.b l) fn tmps assign body) w := by
          simp only [execOp, ho, resolve, e1.2, V.re, Deferred.ofValue, Sem.run_bind, Sem.run_pure, Result.andThen_ok, invoke, ea]
          simpa using h2
        rw [hrun]
        refine ⟨fun h => (by cases h), ?_⟩
        refine RoundIn.mono h3 ?_
        rintro e w' ⟨x, σ', H', rfl, h2, h3⟩
        exact hK x σ' H' w' h2 h3
      · cases hv
    · cases hv
  · rename_i r name args ts ho
    have hnd : ∀ c, o.op ≠ .defer c := by intro c e; rw [ho] at e; cases e
    split at hv
    · rename_i t u hr
      split at hv
      · rename_i g hg
        split at hv
        · rename_i vs hvs
          split at hv
          · rename_i hc
            have h1 := hi.fn _ _ _ _ _ hv
            refine ⟨hi.le _ _ _ _ _ hv, fun rd => ⟨h1.1, fun H σ w a K Q p he hK => ?_⟩⟩
            have e1 := he r (by simp [ho, Op.operands, Call.operands]) _ hr
            have e2 := evVs_rel (ρ := a.eval) args.toList vs (fun x hx => he x (by simp only [ho, Op.operands, Call.operands, Array.mem_append]; exact .inr (Array.mem_toList_iff.1 hx))) hvs
            have ea : args.map a.eval = (V.reL σ vs).toArray := by rw [← e2.2, ← Array.toList_map, Array.toArray_toList]
            refine ⟨fun _ _ => trivial, ?_⟩
            rw [Oper.semAt_eq _ _ _ hnd]
            have hrun : (execOp a.eval o).run P w = .ok (.enter g (V.reL σ (u :: vs)).toArray) w := by
              simp only [execOp, ho, resolve, e1.2, V.re, Sem.run_bind, Sem.run_pure, Result.andThen_ok, invoke, ea]
              have hm := run_methV hg (u.re σ) w (P.types.size + Made.depth - 1)
              have h0 : 0 < Made.depth := by decide
              have hd : P.types.size + Made.depth - 1 + 1 = P.types.size + Made.depth := by omega
              rw [hd] at hm
              have ex : (#[(V.iface t u).re σ] ++ (V.reL σ vs).toArray).extract 1 (#[(V.iface t u).re σ] ++ (V.reL σ vs).toArray).size = (V.reL σ vs).toArray := by simp
              have e0 : (#[(V.iface t u).re σ] ++ (V.reL σ vs).toArray)[0]? = some (.iface t (u.re σ)) := by simp [V.re]
              have hp : (program).run P w = .ok P w := rfl
              simp only [V.re] at ex e0
              simp only [e0, ex, callMethod, Sem.run_bind, hp, Result.andThen_ok, hm, run_callable hc]
              simp [V.reL]
            rw [hrun]
            refine ⟨fun h => (by cases h), ?_⟩
            refine CallsIn.mono (h1.2 H σ w p ⟨e1.1, e2.1⟩) ?_
            rintro e w' ⟨x, σ', H', rfl, h2, h3⟩
            exact hK x σ' H' w' h2 h3
          · cases hv
        · cases hv
      · cases hv
    · cases hv
  · split at hv
    · rename_i pr hp
      cases hv
      exact ⟨s.le_add _ _ _, fun rd => opOk_prim hp (s.add_R _ _ _) (s.add_W _ _ _)⟩
    · cases hv

/-! ### guards -/
def wantV (ops : List Oper) (tm : Tm) (o : Oper) : Option Bool := match o.guard with
  | none => some true
  | some (j, want) => match ops[j]? with
    | some g => match g.dst with
      | some t => match tm.get t with
        | some (.bool b) => some (b == want)
        | some (.raw _) => none
        | some _ => some false
        | none => none
      | none => some false
    | none => some false
theorem wantV_ok {opsA : Array Oper} {tm : Tm} {o : Oper} {b : Bool} {arr : Array Value} {σ : Ren} (hv : wantV opsA.toList tm o = some b)
    (ht : ∀ j want g t u, o.guard = some (j, want) → opsA[j]? = some g → g.dst = some t → tm.get t = some u → VRel σ u (arr.getD t undef)) : Region.wanted o (yielded opsA arr) = b := by
  unfold wantV at hv
  unfold Region.wanted
  split at hv
  · rename_i hg; cases hv; simp [hg]
  · rename_i j want hg
    simp only [hg]
    split at hv
    · rename_i g hgj
      have hgj : opsA[j]? = some g := by simpa using hgj
      split at hv
      · rename_i t hd
        have key : ∀ u, tm.get t = some u → (∀ x, u ≠ .raw x) → yielded opsA arr j = match u with | .bool c => some c | _ => none := by
          intro u hu hraw
          have hr := ht j want g t u hg hgj hd hu
          have hy : yielded opsA arr j = match arr.getD t undef with | .bool c => some c | _ => none := by
            unfold yielded
            simp only [hgj, Option.bind_some, hd]
            simp only [Array.getD_eq_getD_getElem?]
            cases arr[t]? with
            | none => simp [undef]
            | some y => cases y <;> rfl
          rw [hy, hr.2]
          cases u with
          | slice a n c ex => cases a <;> rfl
          | raw x => exact absurd rfl (hraw x)
          | _ => rfl
        split at hv
        · rename_i c hu
          cases hv
          rw [key _ hu (fun x => by simp)]
          cases c <;> cases want <;> rfl
        · cases hv
        · rename_i u hnb hnr hu
          cases hv
          rw [key _ hu (fun x e => hnr x e)]
          cases u <;> first | rfl | exact absurd rfl (hnb _)
        · cases hv
      · rename_i hd
        cases hv
        simp [yielded, hgj, hd]
    · rename_i hgj
      cases hv
      have hgj : opsA[j]? = none := by simpa using hgj
      simp [yielded, hgj]

/-! ### one behind the other -/
def evOps (P : Program) (inv : InvT) (ops : List Oper) : List Oper → Tm → St → Option (Tm × St)
  | [], tm, s => some (tm, s)
  | o :: r, tm, s => match wantV ops tm o with
    | some true => match evOp P inv tm s o with
      | some (v, s') => evOps P inv ops r (tm.put o.dst v) s'
      | none => none
    | some false => evOps P inv ops r (tm.put o.dst undefV) s
    | none => none

theorem evOps_ok {inv : InvT} (hi : InvGood P inv) (opsA : Array Oper) : ∀ (l : List Oper) (k : Nat) (tm tm' : Tm) (s s' : St), opsA.toList.drop k = l → evOps P inv opsA.toList l tm s = some (tm', s') →
    s.le s' ∧ VF s.h s'.h s'.W ∧ ∀ rd H σ w a Q, Pre P s.h s'.h s'.R s'.W H σ w → TRel σ tm a.tmps →
      (∀ σ' H' a' w', a'.defers = a.defers → TRel σ' tm' a'.tmps → Step P s.h s'.h s'.W H H' σ σ' w w' → Q .normal a' w') → wpOpsIn (FW rd) 0 P opsA Q (List.range' k l.length) a w
  | [], k, tm, tm', s, s', hk, hv => by
    cases hv
    refine ⟨St.le_refl _, VF.refl _ _, fun rd H σ w a Q p ht hQ => ?_⟩
    exact hQ σ H a w rfl ht (Step.refl p.inv fun b hb hw => p.agree b hb (.inr hw))
  | o :: r, k, tm, tm', s, s', hk, hv => by
    have hlt : k < opsA.toList.length := by
      rcases Nat.lt_or_ge k opsA.toList.length with h | h
      · exact h
      · rw [List.drop_eq_nil_of_le h] at hk; cases hk
    have hdrop := List.drop_eq_getElem_cons hlt
    rw [hk] at hdrop
    have ho : opsA[k]? = some o := by
      have : o = opsA.toList[k] := (List.cons.inj hdrop).1
      rw [this]; simp at hlt; simp [hlt]
    have hk' : opsA.toList.drop (k + 1) = r := (List.cons.inj hdrop).2.symm
    unfold evOps at hv
    split at hv
    · rename_i hw
      split at hv
      · rename_i v s1 h1
        obtain ⟨l1, ok1⟩ := evOp_ok hi h1
        obtain ⟨l2, v2, ih⟩ := evOps_ok hi opsA r (k + 1) _ _ _ _ hk' hv
        have vf1 : VF s.h s1.h s'.W := (ok1 none).1.mono l2.W
        refine ⟨St.le_trans l1 l2, vf1.trans v2, fun rd H σ w a Q p ht hQ => ?_⟩
        simp only [List.length_cons, List.range'_succ, wpOpsIn, ho]
        have hwant : Region.wanted o (yielded opsA a.tmps) = true := wantV_ok hw (fun j want g t u _ _ _ hu => ht.2 t u hu)
        rw [if_pos hwant]
        refine ((ok1 rd).mono l2.R l2.W).2 H σ w a _ Q (p.fst v2.n) (by cases a; exact ht.ev _ o) fun x σ' H' w' hx hs => ?_
        refine ih rd H' σ' w' _ Q (p.snd vf1 hs) ((ht.le hs.goes.le).put o.dst hx a.defers) fun σ'' H'' a' w'' hd ht' hs' => ?_
        refine hQ σ'' H'' a' w'' (hd.trans (by cases o.dst <;> rfl)) ht' (Step.trans p vf1 v2 hs hs')
      · cases hv
    · rename_i hw
      obtain ⟨l2, v2, ih⟩ := evOps_ok hi opsA r (k + 1) _ _ _ _ hk' hv
      refine ⟨l2, v2, fun rd H σ w a Q p ht hQ => ?_⟩
      simp only [List.length_cons, List.range'_succ, wpOpsIn, ho]
      have hwant : Region.wanted o (yielded opsA a.tmps) = false := wantV_ok hw (fun j want g t u _ _ _ hu => ht.2 t u hu)
      rw [if_neg (by rw [hwant]; simp)]
      refine ⟨fun _ _ => trivial, ?_⟩
      refine ih rd H σ w _ Q p (ht.put o.dst ⟨undefV_on _, (undefV_re σ).symm⟩ a.defers) fun σ'' H'' a' w'' hd ht' hs' => ?_
      exact hQ σ'' H'' a' w'' (hd.trans (by cases o.dst <;> rfl)) ht' hs'
    · cases hv

end Go.Vm
