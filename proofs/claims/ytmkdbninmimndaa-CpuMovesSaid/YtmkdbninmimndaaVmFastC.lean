/- The fast machine: code, calls, rounds; what it answers, the slow one answers. -/
import Derived.Test.YtmkdbninmimndaaVmFastB
import Derived.Test.YtmkdbninmimndaaVmS
set_option linter.unusedVariables false
set_option linter.unusedSimpArgs false
namespace Go.Vm
variable {P : Program}

abbrev Faster (fi inv : InvT) : Prop := ∀ t a s r, fi t a s = some r → inv t a s = some r
noncomputable def cO (P : Program) (op : Op) : Bx (InvT → Tm → St → Option (V × St)) := match op with
  | .call ⟨.value (.func g), args, ts⟩ => match callable P g with
    | true => ⟨fun inv tm s => oB ((cVs args.toList).f tm) fun vs => inv (.fn g) vs s⟩
    | false => ⟨fun _ _ _ => none⟩
  | .call ⟨.value (.tmp x), args, ts⟩ => ⟨fun inv tm s => evOp P inv tm s (bareO (.call ⟨.value (.tmp x), args, ts⟩))⟩
  | .call ⟨.value _, _, _⟩ => ⟨fun _ _ _ => none⟩
  | .call ⟨.invoke r name, args, ts⟩ => ⟨fun inv tm s => evOp P inv tm s (bareO (.call ⟨.invoke r name, args, ts⟩))⟩
  | op => ⟨fun _ tm s => St.rec (motive := fun _ => Option (V × St)) (fun h n0 fr fw => oB ((cP P op).f tm h) fun pr => Pr.rec (motive := fun _ => Option (V × St)) (fun v h' r w => some (v, ⟨h', n0, addF n0 r fr, addF n0 w fw⟩)) pr) s⟩
theorem evOp_mono {fi inv : InvT} (hf : Faster fi inv) {o : Oper} {tm : Tm} {s : St} {r : V × St} (e : evOp P fi tm s o = some r) : evOp P inv tm s o = some r := by
  revert e
  unfold evOp
  split
  · split
    · split
      · split
        · exact hf _ _ _ _
        · exact id
      · exact id
    · split
      · exact hf _ _ _ _
      · exact id
    · exact id
  · split
    · split
      · split
        · split
          · exact hf _ _ _ _
          · exact id
        · exact id
      · exact id
    · exact id
  · exact id
theorem cO_eq {fi inv : InvT} (hf : Faster fi inv) {o : Oper} {tm : Tm} {s : St} {r : V × St} (e : (cO P o.op).f fi tm s = some r) : evOp P inv tm s o = some r := by
  have plain : ∀ op, (∀ f a t, op ≠ .call ⟨.value f, a, t⟩) → (∀ f n a t, op ≠ .call ⟨.invoke f n, a, t⟩) → St.rec (motive := fun _ => Option (V × St)) (fun h n0 fr fw => oB ((cP P op).f tm h) fun pr => Pr.rec (motive := fun _ => Option (V × St)) (fun v h' r w => some (v, ⟨h', n0, addF n0 r fr, addF n0 w fw⟩)) pr) s = some r → evOp P inv tm s (bareO op) = some r := by
    intro op hne hni h
    obtain ⟨sh, sn, sr, sw⟩ := s
    obtain ⟨pr, h1, h2⟩ := oB_some h
    have h3 := cP_eq (o := bareO op) h1
    unfold evOp
    split
    · rename_i f a t ho; exact absurd ho (hne f a t)
    · rename_i f n a t ho; exact absurd ho (hni f n a t)
    · rw [h3]; exact h2
  have bare : evOp P inv tm s (bareO o.op) = evOp P inv tm s o := rfl
  rw [← bare]
  generalize o.op = op at e ⊢
  unfold cO at e
  split at e
  · rename_i g args ts
    split at e
    · rename_i hc
      obtain ⟨vs, h1, h2⟩ := oB_some e
      rw [cVs_eq] at h1
      have h3 := hf _ _ _ _ h2
      simp only [evOp, bareO, evV, h1, hc, List.nil_append, List.append_nil]
      exact h3
    · cases e
  · exact evOp_mono hf e
  · cases e
  · exact evOp_mono hf e
  · rename_i h1 h2 h3 h4
    refine plain _ (fun f a t ho => ?_) (fun f n a t ho => h4 f n a t ho) e
    subst ho
    cases f with
    | func g => exact h1 g a t rfl
    | tmp x => exact h2 x a t rfl
    | _ => exact h3 _ _ _ rfl

def selWant (want : Bool) : V → Option Bool
  | .bool b => some (b == want)
  | .raw _ => none
  | _ => some false
noncomputable def cG (ops : List Oper) (o : Oper) : Bx (Tm → Option Bool) := match o.guard with
  | none => ⟨fun _ => some true⟩
  | some (j, want) => match ops[j]? with
    | some g => match g.dst with
      | some t => ⟨fun tm => oB (tget (path t) tm) (selWant want)⟩
      | none => ⟨fun _ => some false⟩
    | none => ⟨fun _ => some false⟩
theorem cG_eq (ops : List Oper) (o : Oper) (tm : Tm) : (cG ops o).f tm = wantV ops tm o := by
  unfold cG wantV
  cases hg : o.guard with
  | none => rfl
  | some p =>
    obtain ⟨j, want⟩ := p
    simp only []
    cases hj : ops[j]? with
    | none => rfl
    | some g =>
      simp only []
      cases ht : g.dst with
      | none => rfl
      | some t =>
        have e : tget (path t) tm = tm.get t := gp_eq _ _
        simp only [e]
        cases tm.get t with
        | none => rfl
        | some v => cases v <;> rfl
noncomputable def cOps (P : Program) (ops : List Oper) (l : List Oper) : Bx (InvT → Tm → St → Option (Tm × St)) :=
  List.rec (motive := fun _ => Bx (InvT → Tm → St → Option (Tm × St))) ⟨fun _ tm s => some (tm, s)⟩
    (fun o _ ih => match o.guard with
      | none => ⟨fun inv tm s => oP ((cO P o.op).f inv tm s) fun v s' => ih.f inv ((cPut o.dst).f tm v) s'⟩
      | some _ => ⟨fun inv tm s => oB ((cG ops o).f tm) fun b => bB b (oP ((cO P o.op).f inv tm s) fun v s' => ih.f inv ((cPut o.dst).f tm v) s') (ih.f inv ((cPut o.dst).f tm undefV) s)⟩) l
theorem cOps_cons (P : Program) (ops : List Oper) (o : Oper) (l : List Oper) : cOps P ops (o :: l) = match o.guard with
      | none => ⟨fun inv tm s => oP ((cO P o.op).f inv tm s) fun v s' => (cOps P ops l).f inv ((cPut o.dst).f tm v) s'⟩
      | some _ => ⟨fun inv tm s => oB ((cG ops o).f tm) fun b => bB b (oP ((cO P o.op).f inv tm s) fun v s' => (cOps P ops l).f inv ((cPut o.dst).f tm v) s') ((cOps P ops l).f inv ((cPut o.dst).f tm undefV) s)⟩ := rfl
theorem cOps_eq {fi inv : InvT} (hf : Faster fi inv) (ops : List Oper) : ∀ (l : List Oper) (tm : Tm) (s : St) (r : Tm × St), (cOps P ops l).f fi tm s = some r → evOps P inv ops l tm s = some r
  | [], tm, s, r, e => e
  | o :: l, tm, s, r, e => by
    have step : oP ((cO P o.op).f fi tm s) (fun v s' => (cOps P ops l).f fi ((cPut o.dst).f tm v) s') = some r → (match evOp P inv tm s o with
      | some (v, s') => evOps P inv ops l (tm.put o.dst v) s'
      | none => none) = some r := by
      intro h
      obtain ⟨x, x', h1, h2⟩ := oP_some h
      rw [cO_eq hf h1]
      rw [cPut_eq] at h2
      exact cOps_eq hf ops l _ _ _ h2
    rw [cOps_cons] at e
    unfold evOps
    split at e
    · rename_i hg
      have hw : wantV ops tm o = some true := by unfold wantV; rw [hg]
      rw [hw]
      exact step e
    · obtain ⟨b, h1, e⟩ := oB_some e
      rw [cG_eq] at h1
      rw [h1]
      cases b with
      | true => exact step e
      | false =>
        have e : (cOps P ops l).f fi ((cPut o.dst).f tm undefV) s = some r := e
        rw [cPut_eq] at e
        exact cOps_eq hf ops l _ _ _ e

/-! ### statements whose order is open -/
noncomputable def cRows (P : Program) (ops : List Oper) (l : List Oper) : Bx (InvT → Tm → Heap → Option (Tm × Heap × List Row)) :=
  List.rec (motive := fun _ => Bx (InvT → Tm → Heap → Option (Tm × Heap × List Row))) ⟨fun _ tm h => some (tm, h, [])⟩
    (fun o _ ih => match o.guard with
      | none => ⟨fun inv tm h => oP ((cO P o.op).f inv tm ⟨h, h.n, [], []⟩) fun v s' => St.rec (motive := fun _ => Option (Tm × Heap × List Row)) (fun h' _ fr fw => oP (ih.f inv ((cPut o.dst).f tm v) h') fun y z => some (y, z.1, ⟨fr, fw, h.n, h'.n⟩ :: z.2)) s'⟩
      | some _ => ⟨fun inv tm h => oB ((cG ops o).f tm) fun b => bB b (oP ((cO P o.op).f inv tm ⟨h, h.n, [], []⟩) fun v s' => St.rec (motive := fun _ => Option (Tm × Heap × List Row)) (fun h' _ fr fw => oP (ih.f inv ((cPut o.dst).f tm v) h') fun y z => some (y, z.1, ⟨fr, fw, h.n, h'.n⟩ :: z.2)) s')
        (oB (ih.f inv ((cPut o.dst).f tm undefV) h) fun y => some (y.1, y.2.1, ⟨[], [], h.n, h.n⟩ :: y.2.2))⟩) l
theorem cRows_cons (P : Program) (ops : List Oper) (o : Oper) (l : List Oper) : cRows P ops (o :: l) = match o.guard with
      | none => ⟨fun inv tm h => oP ((cO P o.op).f inv tm ⟨h, h.n, [], []⟩) fun v s' => St.rec (motive := fun _ => Option (Tm × Heap × List Row)) (fun h' _ fr fw => oP ((cRows P ops l).f inv ((cPut o.dst).f tm v) h') fun y z => some (y, z.1, ⟨fr, fw, h.n, h'.n⟩ :: z.2)) s'⟩
      | some _ => ⟨fun inv tm h => oB ((cG ops o).f tm) fun b => bB b (oP ((cO P o.op).f inv tm ⟨h, h.n, [], []⟩) fun v s' => St.rec (motive := fun _ => Option (Tm × Heap × List Row)) (fun h' _ fr fw => oP ((cRows P ops l).f inv ((cPut o.dst).f tm v) h') fun y z => some (y, z.1, ⟨fr, fw, h.n, h'.n⟩ :: z.2)) s')
        (oB ((cRows P ops l).f inv ((cPut o.dst).f tm undefV) h) fun y => some (y.1, y.2.1, ⟨[], [], h.n, h.n⟩ :: y.2.2))⟩ := rfl
theorem cRows_eq {fi inv : InvT} (hf : Faster fi inv) (ops : List Oper) : ∀ (l : List Oper) (tm : Tm) (h : Heap) (r : Tm × Heap × List Row), (cRows P ops l).f fi tm h = some r → evRows P inv ops l tm h = some r
  | [], tm, s, r, e => e
  | o :: l, tm, h, r, e => by
    have step : oP ((cO P o.op).f fi tm ⟨h, h.n, [], []⟩) (fun v s' => St.rec (motive := fun _ => Option (Tm × Heap × List Row)) (fun h' _ fr fw => oP ((cRows P ops l).f fi ((cPut o.dst).f tm v) h') fun y z => some (y, z.1, (⟨fr, fw, h.n, h'.n⟩ : Row) :: z.2)) s') = some r → (match evOp P inv tm ⟨h, h.n, [], []⟩ o with
      | some (v, s') => match evRows P inv ops l (tm.put o.dst v) s'.h with
        | some (tm', h', rows) => some (tm', h', ⟨s'.fr, s'.fw, h.n, s'.h.n⟩ :: rows)
        | none => none
      | none => none) = some r := by
      intro e
      obtain ⟨x, x', h1, e⟩ := oP_some e
      obtain ⟨y, z, h2, e⟩ := oP_some e
      rw [cO_eq hf h1]
      rw [cPut_eq] at h2
      have := cRows_eq hf ops l _ _ _ h2
      simp only [this]
      exact e
    rw [cRows_cons] at e
    unfold evRows
    split at e
    · rename_i hg
      have hw : wantV ops tm o = some true := by unfold wantV; rw [hg]
      rw [hw]
      exact step e
    · obtain ⟨b, h1, e⟩ := oB_some e
      rw [cG_eq] at h1
      rw [h1]
      cases b with
      | true => exact step e
      | false =>
        have e : oB ((cRows P ops l).f fi ((cPut o.dst).f tm undefV) h) (fun y => some (y.1, y.2.1, (⟨[], [], h.n, h.n⟩ : Row) :: y.2.2)) = some r := e
        obtain ⟨y, h2, e⟩ := oB_some e
        rw [cPut_eq] at h2
        have := cRows_eq hf ops l _ _ _ h2
        simp only [this]
        exact e
theorem evRows_still {inv : InvT} (ops : List Oper) : ∀ (l : List Oper) (tm : Tm) (h : Heap) (r : Tm × Heap × List Row), evRows P inv ops l tm h = some r → r.2.2.length = l.length ∧ ∀ (k : Nat) (o : Oper), l[k]? = some o → still o = true → ∀ x : Row, r.2.2[k]? = some x → quiet x = true
  | [], tm, h, r, e => by cases e; simp
  | o :: l, tm, h, r, e => by
    unfold evRows at e
    split at e
    · split at e
      · rename_i v s' h1
        split at e
        · rename_i tm' h' rows h2
          cases e
          obtain ⟨i1, i2⟩ := evRows_still ops l _ _ _ h2
          refine ⟨by simp at i1 ⊢; exact i1, fun k q hk hs x hx => ?_⟩
          cases k with
          | succ k => exact i2 k q (by simpa using hk) hs x (by simpa using hx)
          | zero =>
            simp at hk hx
            subst hk hx
            unfold evOp at h1
            split at h1
            · rename_i ho; simp [still, ho] at hs
            · rename_i ho; simp [still, ho] at hs
            · split at h1
              · rename_i pr hp
                cases h1
                obtain ⟨a1, a2⟩ := still_ok hs hp
                simp [quiet, St.add, a1, a2, addF]
              · cases h1
        · cases e
      · cases e
    · split at e
      · rename_i tm' h' rows h2
        cases e
        obtain ⟨i1, i2⟩ := evRows_still ops l _ _ _ h2
        refine ⟨by simp at i1 ⊢; exact i1, fun k q hk hs x hx => ?_⟩
        cases k with
        | succ k => exact i2 k q (by simpa using hk) hs x (by simpa using hx)
        | zero => simp at hx; subst hx; simp [quiet]
      · cases e
    · cases e
def pairAp (ri rj : Row) : Bool :=
  (quiet rj || (noneIn rj.w 0 0 ri.r && noneIn rj.w 0 0 ri.w)) && (quiet ri || (noneIn ri.w ri.n ri.n' rj.r && noneIn ri.w ri.n ri.n' rj.w))
def pairsB (rows : List Row) : List (Nat × Nat) → Bool
  | [] => true
  | p :: r => (match rows[p.1]?, rows[p.2]? with
    | some a, some b => pairAp a b
    | _, _ => false) && pairsB rows r
theorem pairsB_mem {rows : List Row} : ∀ {l : List (Nat × Nat)}, pairsB rows l = true → ∀ i j, (i, j) ∈ l → ∀ a b, rows[i]? = some a → rows[j]? = some b → pairAp a b = true
  | [], _, i, j, h => by cases h
  | p :: r, h, i, j, hm => by
    intro a b ha hb
    unfold pairsB at h
    simp only [Bool.and_eq_true] at h
    rcases List.mem_cons.1 hm with e | hm
    · subst e
      have h1 := h.1
      simp only [ha, hb] at h1
      exact h1
    · exact pairsB_mem h.2 i j hm a b ha hb
theorem rowsOk_of {inv : InvT} {ops : List Oper} {tm : Tm} {h : Heap} {r : Tm × Heap × List Row} (e : evRows P inv ops ops tm h = some r) (hp : pairsB r.2.2 (openPairs ops) = true) : rowsOk (masks ops []) r.2.2 = true := by
  obtain ⟨hl, hs⟩ := evRows_still ops ops _ _ _ e
  unfold rowsOk
  rw [List.all_eq_true]
  intro j hj
  rw [List.mem_range] at hj
  have hj' : j < ops.length := by omega
  rw [List.getElem?_eq_getElem hj]
  simp only [Bool.or_eq_true, List.all_eq_true]
  have oj : ops[j]? = some ops[j] := List.getElem?_eq_getElem hj'
  by_cases hq : quiet r.2.2[j] = true
  · exact .inl hq
  · right
    have nsj : ¬ still ops[j] = true := fun h => hq (hs j _ oj h _ (List.getElem?_eq_getElem hj))
    intro i hi
    rw [List.mem_range] at hi
    have hi' : i < ops.length := by omega
    rw [List.getElem?_eq_getElem hi]
    simp only []
    have oi : ops[i]? = some ops[i] := List.getElem?_eq_getElem hi'
    unfold pairOk
    cases hb1 : Nat.blt i j with
    | true =>
      have hij := Nat.blt_eq.mp hb1
      rcases mem_openPairs hij oi oj with h1 | h1 | h1
      · simp only [h1, Bool.true_or]
      · exact absurd h1.2 nsj
      · have := pairsB_mem hp i j h1 _ _ (List.getElem?_eq_getElem hi) (List.getElem?_eq_getElem hj)
        unfold pairAp at this
        simp only [Bool.and_eq_true, Bool.or_eq_true] at this
        rcases this.1 with h2 | h2
        · exact absurd h2 hq
        · simp [h2.1, h2.2]
    | false =>
      simp only []
      cases hb2 : Nat.blt j i with
      | false => rfl
      | true =>
        have hij := Nat.blt_eq.mp hb2
        rcases mem_openPairs hij oj oi with h1 | h1 | h1
        · simp only [h1, Bool.true_or]
        · exact absurd h1.1 nsj
        · have := pairsB_mem hp j i h1 _ _ (List.getElem?_eq_getElem hj) (List.getElem?_eq_getElem hi)
          unfold pairAp at this
          simp only [Bool.and_eq_true, Bool.or_eq_true] at this
          rcases this.2 with h2 | h2
          · exact absurd h2 hq
          · simp [h2.1, h2.2]
noncomputable def cDraw (P : Program) (ops : List Oper) : Bx (InvT → Tm → St → Option (Tm × St)) := match staticOk ops, openPairs ops with
  | true, [] => ⟨fun inv tm s => St.rec (motive := fun _ => Option (Tm × St)) (fun h n0 fr fw => oP ((cRows P ops ops).f inv tm h) fun tm' y => Prod.rec (motive := fun _ => Option (Tm × St)) (fun h' rows => some (tm', ⟨h', n0, addRs n0 rows fr, addWs n0 rows fw⟩)) y) s⟩
  | true, p :: ps => ⟨fun inv tm s => St.rec (motive := fun _ => Option (Tm × St)) (fun h n0 fr fw => oP ((cRows P ops ops).f inv tm h) fun tm' y => Prod.rec (motive := fun _ => Option (Tm × St)) (fun h' rows => bB (pairsB rows (p :: ps)) (some (tm', ⟨h', n0, addRs n0 rows fr, addWs n0 rows fw⟩)) none) y) s⟩
  | false, _ => ⟨fun _ _ _ => none⟩
theorem cDraw_eq {fi inv : InvT} (hf : Faster fi inv) {ops : List Oper} {tm : Tm} {s : St} {r : Tm × St} (e : (cDraw P ops).f fi tm s = some r) : evDraw P inv ops tm s = some r := by
  obtain ⟨h, n0, fr, fw⟩ := s
  have fin : ∀ tm' h' rows, staticOk ops = true → (cRows P ops ops).f fi tm h = some (tm', h', rows) → pairsB rows (openPairs ops) = true → some (tm', (⟨h', n0, addRs n0 rows fr, addWs n0 rows fw⟩ : St)) = some r → evDraw P inv ops tm ⟨h, n0, fr, fw⟩ = some r := by
    intro tm' h' rows hs h1 h2 e
    have h3 := cRows_eq hf ops ops _ _ _ h1
    have h4 := rowsOk_of h3 h2
    unfold evDraw
    simp only [hs, h3, h4]
    exact e
  unfold cDraw at e
  split at e
  · rename_i hs hp
    obtain ⟨tm', y, h1, e⟩ := oP_some e
    obtain ⟨h', rows⟩ := y
    exact fin tm' h' rows hs h1 (by rw [hp]; rfl) e
  · rename_i p ps hs hp
    obtain ⟨tm', y, h1, e⟩ := oP_some e
    obtain ⟨h', rows⟩ := y
    have e : bB (pairsB rows (p :: ps)) (some (tm', (⟨h', n0, addRs n0 rows fr, addWs n0 rows fw⟩ : St))) none = some r := e
    cases hb : pairsB rows (p :: ps) with
    | true => rw [hb, bB_true] at e; exact fin tm' h' rows hs h1 (by rw [hp]; exact hb) e
    | false => rw [hb] at e; cases e
  · cases e

/-! ### code -/
abbrev Res := Ex × Fr × St
noncomputable def oR {β : Type} (x : Option Res) (k : Ex → Fr → St → Option β) : Option β := Option.rec (motive := fun _ => Option β) none (fun p => Prod.rec (motive := fun _ => Option β) (fun e q => Prod.rec (motive := fun _ => Option β) (fun f s => k e f s) q) p) x
theorem oR_some {β : Type} {x : Option Res} {k : Ex → Fr → St → Option β} {r : β} (h : oR x k = some r) : ∃ e f s, x = some (e, f, s) ∧ k e f s = some r := by
  cases x with
  | none => cases h
  | some a => exact ⟨a.1, a.2.1, a.2.2, rfl, h⟩
attribute [irreducible] oR
noncomputable def exN {α : Type} (x : Ex) (n o : α) : α := Ex.rec (motive := fun _ => α) n (fun _ => o) o x
noncomputable def fLoop (body : Fr → St → Option Res) (n : Nat) : Fr → St → Option Res :=
  Nat.rec (motive := fun _ => Fr → St → Option Res) (fun _ _ => none) (fun _ ih f s => oR (body f s) fun e f' s' => exN e (ih f' s') (some (e, f', s'))) n
theorem fLoop_eq {body body' : Fr → St → Option Res} (hb : ∀ f s r, body f s = some r → body' f s = some r) : ∀ n f s r, fLoop body n f s = some r → loopN body' n f s = some r
  | 0, f, s, r, e => by cases e
  | n + 1, f, s, r, e => by
    obtain ⟨ex, f1, s1, h1, e⟩ := oR_some e
    unfold loopN
    rw [hb _ _ _ h1]
    cases ex with
    | norm => exact fLoop_eq hb n f1 s1 r e
    | exit id => exact e
    | ret => exact e
noncomputable def cCode (P : Program) (L : Nat) : Code → Bx (InvT → Option Nat → Fr → St → Option Res)
  | .skip => ⟨fun _ _ f s => some (.norm, f, s)⟩
  | .label _ => ⟨fun _ _ f s => some (.norm, f, s)⟩
  | .region _ ops draw => match draw with
    | false => ⟨fun inv _ f s => Fr.rec (motive := fun _ => Option Res) (fun tm mks => oP ((cOps P ops.toList ops.toList).f inv tm s) fun tm' s' => some (.norm, ⟨tm', mks⟩, s')) f⟩
    | true => ⟨fun inv _ f s => Fr.rec (motive := fun _ => Option Res) (fun tm mks => oP ((cDraw P ops.toList).f inv tm s) fun tm' s' => some (.norm, ⟨tm', mks⟩, s')) f⟩
  | .seq a b => ⟨fun inv rd f s => oR ((cCode P L a).f inv rd f s) fun e f' s' => exN e ((cCode P L b).f inv rd f' s') (some (e, f', s'))⟩
  | .cond c a b => ⟨fun inv rd f s => oB (Fr.rec (motive := fun _ => Option Bool) (fun tm _ => oB ((cV c).f tm) selBool) f) fun q => bB q ((cCode P L a).f inv rd f s) ((cCode P L b).f inv rd f s)⟩
  | .block id c => ⟨fun inv rd f s => oR ((cCode P L c).f inv rd f s) fun e f' s' => Ex.rec (motive := fun _ => Option Res) (some (.norm, f', s')) (fun i => bB (Nat.beq i id) (some (.norm, f', s')) (some (.exit i, f', s'))) (some (.ret, f', s')) e⟩
  | .loop c => ⟨fun inv rd f s => fLoop ((cCode P L c).f inv rd) L f s⟩
  | .exit id => ⟨fun _ _ f s => some (.exit id, f, s)⟩
  | .ret => ⟨fun _ _ f s => some (.ret, f, s)⟩
  | .scope c => ⟨(cCode P L c).f⟩
  | .rangeFunc g ps assign body => ⟨fun inv rd f s => evRange P inv rd g ps assign body f s⟩
  | _ => ⟨fun _ _ _ _ => none⟩
theorem evRange_mono {fi inv : InvT} (hf : Faster fi inv) {rd : Option Nat} {g : Operand} {ps : Array Tmp} {assign body : Code} {f : Fr} {s : St} {r : Res} (e : evRange P fi rd g ps assign body f s = some r) : evRange P inv rd g ps assign body f s = some r := by
  revert e
  unfold evRange
  split
  · split
    · split
      · intro e
        split at e
        · rename_i v s2 h2
          rw [hf _ _ _ _ h2]; exact e
        · cases e
      · exact id
    · exact id
  · exact id
theorem cCode_eq {fi inv : InvT} (hf : Faster fi inv) (L : Nat) (rd : Option Nat) : ∀ (c : Code) (f : Fr) (s : St) (r : Res), (cCode P L c).f fi rd f s = some r → evCode P inv L rd c f s = some r := by
  intro c
  induction c with
  | skip => intro f s r e; exact e
  | label _ => intro f s r e; exact e
  | region id ops draw =>
    intro f s r e
    cases draw with
    | false =>
      obtain ⟨tm', s', h1, e⟩ := oP_some e
      have := cOps_eq hf _ _ _ _ _ h1
      simp only [evCode, this]
      exact e
    | true =>
      obtain ⟨tm', s', h1, e⟩ := oP_some e
      have := cDraw_eq hf h1
      simp only [evCode, this]
      exact e
  | seq a b iha ihb =>
    intro f s r e
    obtain ⟨ex, f1, s1, h1, e⟩ := oR_some e
    unfold evCode
    rw [iha _ _ _ h1]
    cases ex with
    | norm => exact ihb _ _ _ e
    | exit id => exact e
    | ret => exact e
  | cond c a b iha ihb =>
    intro f s r e
    obtain ⟨q, h1, e⟩ := oB_some e
    obtain ⟨v, h2, h3⟩ := oB_some h1
    rw [cV_eq, selBool_some h3] at h2
    unfold evCode
    rw [h2]
    cases q with
    | true => exact iha _ _ _ e
    | false => exact ihb _ _ _ e
  | block id c ih =>
    intro f s r e
    obtain ⟨ex, f1, s1, h1, e⟩ := oR_some e
    unfold evCode
    rw [ih _ _ _ h1]
    cases ex with
    | norm => exact e
    | exit i =>
      have e : bB (Nat.beq i id) (some (.norm, f1, s1)) (some (.exit i, f1, s1)) = some r := e
      cases hb : Nat.beq i id with
      | true => rw [hb] at e; simp only [hb]; exact e
      | false => rw [hb] at e; simp only [hb]; exact e
    | ret => exact e
  | loop c ih => intro f s r e; exact fLoop_eq ih L f s r e
  | exit id => intro f s r e; exact e
  | ret => intro f s r e; exact e
  | scope c ih => intro f s r e; exact ih _ _ _ e
  | rangeFunc g ps a b iha ihb => intro f s r e; exact evRange_mono hf e
  | _ => intro f s r e; cases e

/-! ### calls and rounds -/
noncomputable def fSetL (l : List V) : Nat → Tm → Tm := List.rec (motive := fun _ => Nat → Tm → Tm) (fun _ tm => tm) (fun v _ ih i tm => ih (i + 1) (tset (path i) i tm v)) l
theorem fSetL_eq : ∀ (l : List V) (i : Nat) (tm : Tm), fSetL l i tm = setL tm i l
  | [], i, tm => rfl
  | v :: r, i, tm => by
    show fSetL r (i + 1) (tset (path i) i tm v) = _
    rw [show tset (path i) i tm v = tm.set i v from cPut_eq (some i) tm v, fSetL_eq r]; rfl
noncomputable def cRes (P : Program) (l : List ResultVar) : Bx (Tm → Heap → Option (List V × List Nat)) :=
  List.rec (motive := fun _ => Bx (Tm → Heap → Option (List V × List Nat))) ⟨fun _ _ => some ([], [])⟩
    (fun x _ ih => match x with
      | .tmp t => ⟨fun tm h => oB (tget (path t) tm) fun v => oP (ih.f tm h) fun vs rs => some (v :: vs, rs)⟩
      | .cell a t => ⟨fun tm h => oP (oB (tget (path a) tm) selPtr) fun b off => oB ((cLoad P t).f b off h) fun v => oP (ih.f tm h) fun vs rs => some (v :: vs, b :: rs)⟩) l
theorem cRes_eq : ∀ (l : List ResultVar) (tm : Tm) (h : Heap) (r : List V × List Nat), (cRes P l).f tm h = some r → evRes P tm h l = some r
  | [], tm, h, r, e => e
  | .tmp t :: l, tm, h, r, e => by
    obtain ⟨v, h1, e⟩ := oB_some e
    obtain ⟨vs, rs, h2, e⟩ := oP_some e
    have h1 : tm.get t = some v := (gp_eq _ _).symm.trans h1
    have h2 := cRes_eq l _ _ _ h2
    unfold evRes
    rw [h1]
    simp only [h2]
    exact e
  | .cell a t :: l, tm, h, r, e => by
    obtain ⟨b, off, h1, e⟩ := oP_some e
    obtain ⟨u, h0, h1⟩ := oB_some h1
    obtain ⟨v, h3, e⟩ := oB_some e
    obtain ⟨vs, rs, h2, e⟩ := oP_some e
    have h0 : tm.get a = some u := (gp_eq _ _).symm.trans h0
    rw [selPtr_some h1] at h0
    have h2 := cRes_eq l _ _ _ h2
    unfold evRes
    rw [h0]
    simp only [cLoad_eq h3, h2]
    exact e
noncomputable def fRet (P : Program) (rs : List ResultVar) (f : Fr) (s : St) : Option (V × St) :=
  Fr.rec (motive := fun _ => Option (V × St)) (fun tm mks => oB (takeM mks s) fun s2 => St.rec (motive := fun _ => Option (V × St)) (fun h n0 fr fw => oP ((cRes P rs).f tm h) fun vs rr => some (retV vs, ⟨h, n0, addF n0 rr fr, addF n0 [] fw⟩)) s2) f
noncomputable def fEnd (P : Program) (rs : List ResultVar) (e : Ex) (f : Fr) (s : St) : Option (V × St) :=
  Ex.rec (motive := fun _ => Option (V × St)) (fRet P rs f s) (fun _ => none) (fRet P rs f s) e
noncomputable def cFn (P : Program) (L : Nat) (f : FuncId) : Bx (InvT → List V → St → Option (V × St)) := match P.funcs[f]? with
  | some fn => match fn.body, fn.ntmps, fn.results.toList with
    | some c, n, rs => ⟨fun inv args s => oR ((cCode P L c).f inv none ⟨fSetL args 0 ⟨Nat.add args.length (Nat.sub n args.length), .nil⟩, []⟩ s) (fEnd P rs)⟩
    | none, _, _ => ⟨fun _ _ _ => none⟩
  | none => ⟨fun _ _ _ => none⟩
theorem cFn_eq {fi inv : InvT} (hf : Faster fi inv) {L : Nat} {f : FuncId} {args : List V} {s : St} {r : V × St} (e : (cFn P L f).f fi args s = some r) : evFn P inv L f args s = some r := by
  unfold cFn at e
  unfold evFn
  split at e
  · rename_i fn hfn
    simp only [hfn]
    split at e
    · rename_i c hb
      obtain ⟨ex, f1, s1, h1, e⟩ := oR_some e
      rw [fSetL_eq] at h1
      have h2 := cCode_eq hf L none _ _ _ _ h1
      have h3 : evCode P inv L none c ⟨initTm fn.ntmps args, []⟩ s = some (ex, f1, s1) := h2
      simp only [hb, h3]
      have fin : fRet P fn.results.toList f1 s1 = some r → (match takeM f1.mks s1 with
        | some s2 => match evRes P f1.tm s2.h fn.results.toList with
          | some (vs, rs) => some (retV vs, s2.add s2.h rs [])
          | none => none
        | none => none) = some r := by
        intro e
        obtain ⟨s2, h4, e⟩ := oB_some (show oB (takeM f1.mks s1) (fun s2 => oP ((cRes P fn.results.toList).f f1.tm s2.h) fun vs rr => some (retV vs, s2.add s2.h rr [])) = some r from e)
        obtain ⟨vs, rr, h5, e⟩ := oP_some e
        have h5 := cRes_eq _ _ _ _ h5
        rw [h4]
        simp only [h5]
        exact e
      cases ex with
      | exit id => cases e
      | norm => exact fin e
      | ret => exact fin e
    · cases e
  · cases e
def selLoop : O → Option Loopv
  | .loop lv => some lv
  | _ => none
theorem selLoop_some {o : O} {lv : Loopv} (h : selLoop o = some lv) : o = .loop lv := by
  unfold selLoop at h
  split at h
  · cases h; rfl
  · cases h
noncomputable def fBusy (lv : Loopv) : Loopv := Loopv.rec (motive := fun _ => Loopv) (fun _ p t ps a b d => ⟨.busy, p, t, ps, a, b, d⟩) lv
noncomputable def fDone (lv : Loopv) (j : Option Code) : Loopv := Loopv.rec (motive := fun _ => Loopv) (fun _ _ t ps a b d => ⟨if j.isNone then .ready else .done, j, t, ps, a, b, d⟩) lv
noncomputable def fYield (P : Program) (inv : InvT) (L : Nat) (l : Nat) (args : List V) (s : St) : Option (V × St) :=
  St.rec (motive := fun _ => Option (V × St)) (fun h n0 fr fw => oB (oB (fget h l) selLoop) fun lv => Loopv.rec (motive := fun _ => Option (V × St))
    (fun st pd tm ps as body d => oB (setPs tm ps args) fun tm1 => oR ((cCode P L as).f inv (some l) ⟨tm1, []⟩ ⟨h, n0, addF n0 [l] fr, addF n0 [] fw⟩) fun e1 f1 s1 =>
      exN e1 (St.rec (motive := fun _ => Option (V × St)) (fun h1 m0 fr1 fw1 => oB (oB (fget h1 l) selLoop) fun lv1 => match lv1.state with
        | .ready => oR ((cCode P L body).f inv (some l) f1 ⟨fset h1 l (.loop (fBusy lv1)), m0, addF m0 [] fr1, addF m0 [l] fw1⟩) fun e2 f2 s2 => St.rec (motive := fun _ => Option (V × St)) (fun h2 k0 fr2 fw2 => oB (oB (fget h2 l) selLoop) fun lv2 =>
          some (.bool e2.jump.isNone, ⟨fset h2 l (.loop (fDone lv2 e2.jump)), k0, addF k0 [] fr2, addF k0 [l] fw2⟩)) s2
        | _ => none) s1) none) lv) s
theorem fYield_eq {fi inv : InvT} (hf : Faster fi inv) {L l : Nat} {args : List V} {s : St} {r : V × St} (e : fYield P fi L l args s = some r) : evYield P inv L l args s = some r := by
  have getL : ∀ {h : Heap} {lv : Loopv}, oB (fget h l) selLoop = some lv → h.get l = some (.loop lv) := by
    intro h lv e
    obtain ⟨o, h1, h2⟩ := oB_some e
    rw [fget_eq] at h1
    rw [h1, selLoop_some h2]
  obtain ⟨h, n0, fr, fw⟩ := s
  obtain ⟨lv, h0, e⟩ := oB_some e
  have g0 := getL h0
  obtain ⟨st, pd, tm, ps, as, body, d⟩ := lv
  obtain ⟨tm1, h1, e⟩ := oB_some e
  obtain ⟨ex, f1, s1, h2, e⟩ := oR_some e
  have h2 := cCode_eq hf L (some l) _ _ _ _ h2
  obtain ⟨hh1, m0, fr1, fw1⟩ := s1
  unfold evYield
  simp only [g0, h1, St.add, h2]
  cases ex with
  | exit id => cases e
  | ret => cases e
  | norm =>
    obtain ⟨lv1, h3, e⟩ := oB_some e
    have g1 := getL h3
    simp only [g1]
    obtain ⟨st1, p1, t1, ps1, a1, b1, d1⟩ := lv1
    cases st1 <;> try (cases e; done)
    obtain ⟨e2, f2, s2, h4, e⟩ := oR_some e
    rw [fset_eq] at h4
    have h4 := cCode_eq hf L (some l) _ _ _ _ h4
    obtain ⟨hh2, k0, fr2, fw2⟩ := s2
    obtain ⟨lv2, h5, e⟩ := oB_some e
    have g2 := getL h5
    rw [fset_eq] at e
    obtain ⟨st2, p2, t2, ps2, a2, b2, d2⟩ := lv2
    have h4' : evCode P inv L (some l) body f1 ⟨hh1.set l (.loop ⟨.busy, p1, t1, ps1, a1, b1, d1⟩), m0, addF m0 [] fr1, addF m0 [l] fw1⟩ = some (e2, f2, ⟨hh2, k0, fr2, fw2⟩) := h4
    simp only [h4', g2]
    exact e
noncomputable def fCall (P : Program) (hk : Hook) (L : Nat) (inv : InvT) (f : FuncId) (args : List V) (s : St) : Option (V × St) :=
  St.rec (motive := fun _ => Option (V × St)) (fun h n0 fr fw => Option.rec (motive := fun _ => Option (V × St)) ((cFn P L f).f inv args ⟨h, n0, fr, fw⟩) (fun pr => Pr.rec (motive := fun _ => Option (V × St)) (fun v h' r w => some (v, ⟨h', n0, addF n0 r fr, addF n0 w fw⟩)) pr) (hk f args h)) s
noncomputable def fInvH (P : Program) (hk : Hook) (L : Nat) (n : Nat) : InvT :=
  Nat.rec (motive := fun _ => InvT) (fun _ _ _ => none) (fun _ ih t args s => Tgt.rec (motive := fun _ => Option (V × St)) (fun f => fCall P hk L ih f args s) (fun l => fYield P ih L l args s) t) n
theorem fInvH_eq (P : Program) (hk : Hook) (L : Nat) : ∀ n, Faster (fInvH P hk L n) (evInvH P hk L n)
  | 0, t, a, s, r, e => by cases e
  | n + 1, t, a, s, r, e => by
    have ih := fInvH_eq P hk L n
    cases t with
    | fn f =>
      have e : fCall P hk L (fInvH P hk L n) f a s = some r := e
      obtain ⟨h, n0, fr, fw⟩ := s
      unfold fCall at e
      simp only [evInvH]
      dsimp only at e
      cases hh : hk f a h with
      | none => rw [hh] at e; exact cFn_eq ih e
      | some pr => rw [hh] at e; exact e
    | yield l => exact fYield_eq ih e
theorem fTrue {P : Program} {hk : Hook} {L n : Nat} {f : FuncId} {args : List V} {s : St} (h : isTrue (fInvH P hk L n (.fn f) args s) = true) : isTrue (evInvH P hk L n (.fn f) args s) = true := by
  obtain ⟨s', hs⟩ := isTrue_some h
  rw [fInvH_eq P hk L n _ _ _ _ hs]
  rfl
end Go.Vm
