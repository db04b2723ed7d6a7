/- The virtual machine's own run of a statement whose order is open. -/
import Derived.Test.YtmkdbninmimndaaVmN
set_option linter.unusedVariables false
set_option linter.unusedSimpArgs false
namespace Go.Vm
variable {P : Program}

/-! ### what comes ahead of what -/
def maskOf (acc : List Nat) : List Edge → Nat
  | [] => 0
  | e :: r => match Region.binds .any e with
    | true => (2 ^ e.on ||| acc.getD e.on 0) ||| maskOf acc r
    | false => maskOf acc r
def masks : List Oper → List Nat → List Nat
  | [], acc => acc
  | o :: r, acc => masks r (acc ++ [maskOf acc o.after.toList])
theorem maskOf_bit {acc : List Nat} {i : Nat} : ∀ {es : List Edge}, Nat.testBit (maskOf acc es) i = true → ∃ e ∈ es, Region.binds .any e = true ∧ (i = e.on ∨ Nat.testBit (acc.getD e.on 0) i = true)
  | [], h => by simp [maskOf] at h
  | e :: r, h => by
    unfold maskOf at h
    split at h
    · rename_i hb
      rw [Nat.testBit_or, Nat.testBit_or, Nat.testBit_two_pow] at h
      simp only [Bool.or_eq_true, decide_eq_true_eq] at h
      rcases h with (h | h) | h
      · exact ⟨e, by simp, hb, .inl h.symm⟩
      · exact ⟨e, by simp, hb, .inr h⟩
      · obtain ⟨e', h1, h2⟩ := maskOf_bit h; exact ⟨e', by simp [h1], h2⟩
    · obtain ⟨e', h1, h2⟩ := maskOf_bit h; exact ⟨e', by simp [h1], h2⟩
theorem masks_bef (ops : List Oper) : ∀ (r pre : List Oper) (acc : List Nat), ops = pre ++ r → acc.length = pre.length → (∀ j i, Nat.testBit (acc.getD j 0) i = true → Bef ops i j) → ∀ j i, Nat.testBit ((masks r acc).getD j 0) i = true → Bef ops i j
  | [], pre, acc, _, _, h => h
  | o :: r, pre, acc, he, hl, h => by
    refine masks_bef ops r (pre ++ [o]) (acc ++ [maskOf acc o.after.toList]) (by simp [he]) (by simp [hl]) fun j i hb => ?_
    rcases Nat.lt_trichotomy j acc.length with hj | hj | hj
    · refine h j i ?_
      simpa [List.getD, List.getElem?_append_left hj] using hb
    · subst hj
      have hb' : Nat.testBit (maskOf acc o.after.toList) i = true := by simpa [List.getD] using hb
      obtain ⟨e, h1, h2, h3⟩ := maskOf_bit hb'
      intro D hD hj
      have ho : ops[acc.length]? = some o := by rw [he, hl]; simp
      have hDe : D e.on := hD _ o ho hj e (by simpa using h1) h2
      rcases h3 with rfl | h3
      · exact hDe
      · exact h _ _ h3 D hD hDe
    · have : (acc ++ [maskOf acc o.after.toList]).getD j 0 = 0 := by
        simp only [List.getD]
        rw [List.getElem?_eq_none (by simp; omega)]; rfl
      rw [this] at hb
      simp at hb
theorem masks_ok {ops : List Oper} {i j : Nat} (h : Nat.testBit ((masks ops []).getD j 0) i = true) : Bef ops i j :=
  masks_bef ops ops [] [] rfl rfl (fun j i h => by simp [List.getD] at h) j i h

/-! ### what is asked of the text -/
def apartB (ops : List Oper) (i j : Nat) : Bool := match ops[i]?, ops[j]? with
  | some oi, some oj =>
    (match oi.dst with
     | some t => !(looks ops oj).contains t && oj.dst != some t
     | none => true) &&
    (match oj.dst with
     | some t => !(looks ops oi).contains t
     | none => true)
  | _, _ => true
def staticOk (ops : List Oper) : Bool :=
  ((List.range ops.length).all fun j => match ops[j]? with
    | some o => o.after.toList.all fun e => !Region.binds .any e || Nat.blt e.on j
    | none => true) &&
  (List.range ops.length).all fun j => (List.range j).all fun i => Nat.testBit ((masks ops []).getD j 0) i || apartB ops i j
theorem static_edge {ops : List Oper} (h : staticOk ops = true) {j : Nat} {o : Oper} (ho : ops[j]? = some o) {e : Edge} (he : e ∈ o.after) (hb : Region.binds .any e = true) : e.on < j := by
  unfold staticOk at h
  simp only [Bool.and_eq_true] at h
  have hj : j < ops.length := (List.getElem?_eq_some_iff.1 ho).1
  have := List.all_eq_true.1 h.1 j (List.mem_range.2 hj)
  simp only [ho] at this
  have := List.all_eq_true.1 this e (by simpa using he)
  simp only [hb, Bool.not_true, Bool.false_or] at this
  exact Nat.blt_eq.mp this
theorem static_tmps {ops : List Oper} (h : staticOk ops = true) {i j : Nat} {oi oj : Oper} (hij : i < j) (hoi : ops[i]? = some oi) (hoj : ops[j]? = some oj) :
    Bef ops i j ∨ ((∀ t, oi.dst = some t → t ∉ looks ops oj ∧ oj.dst ≠ some t) ∧ (∀ t, oj.dst = some t → t ∉ looks ops oi)) := by
  unfold staticOk at h
  simp only [Bool.and_eq_true] at h
  have hj : j < ops.length := (List.getElem?_eq_some_iff.1 hoj).1
  have h1 := List.all_eq_true.1 (List.all_eq_true.1 h.2 j (List.mem_range.2 hj)) i (List.mem_range.2 hij)
  simp only [Bool.or_eq_true] at h1
  rcases h1 with h1 | h1
  · exact .inl (masks_ok h1)
  · right
    simp only [apartB, hoi, hoj, Bool.and_eq_true] at h1
    refine ⟨fun t ht => ?_, fun t ht => ?_⟩
    · have := h1.1
      simp only [ht, Bool.and_eq_true, Bool.not_eq_true'] at this
      exact ⟨by simpa using this.1, by simpa using this.2⟩
    · have := h1.2
      simp only [ht, Bool.not_eq_true'] at this
      simpa using this

/-! ### what is asked of the run -/
structure Row where
  r : List Nat
  w : List Nat
  n : Nat
  n' : Nat
def noneIn (w : List Nat) (n n' : Nat) : List Nat → Bool
  | [] => true
  | b :: r => match w.contains b with
    | true => false
    | false => match Nat.ble n b, Nat.blt b n' with
      | true, true => false
      | _, _ => noneIn w n n' r
theorem noneIn_iff {w : List Nat} {n n' : Nat} : ∀ {l : List Nat}, noneIn w n n' l = true ↔ ∀ b ∈ l, b ∉ w ∧ ¬ (n ≤ b ∧ b < n')
  | [] => by simp [noneIn]
  | b :: r => by
    unfold noneIn
    split
    · rename_i hc
      simp only [Bool.false_eq_true, false_iff]
      intro h
      exact (h b (by simp)).1 (by simpa using hc)
    · rename_i hc
      split
      · rename_i h1 h2
        simp only [Bool.false_eq_true, false_iff]
        intro h
        exact (h b (by simp)).2 ⟨Nat.le_of_ble_eq_true h1, Nat.blt_eq.mp h2⟩
      · rename_i h1
        rw [noneIn_iff]
        constructor
        · intro h c hc'
          rcases List.mem_cons.1 hc' with rfl | hc'
          · exact ⟨by simpa using hc, fun ⟨g1, g2⟩ => h1 (Nat.ble_eq_true_of_le g1) (blt_true g2)⟩
          · exact h c hc'
        · intro h c hc'; exact h c (by simp [hc'])
def quiet (r : Row) : Bool := match r.w with
  | [] => Nat.beq r.n r.n'
  | _ => false
def pairOk (M : List Nat) (i j : Nat) (ri rj : Row) : Bool := match Nat.blt i j with
  | true => Nat.testBit (M.getD j 0) i || (noneIn rj.w 0 0 ri.r && noneIn rj.w 0 0 ri.w)
  | false => match Nat.blt j i with
    | true => Nat.testBit (M.getD i 0) j || (noneIn rj.w rj.n rj.n' ri.r && noneIn rj.w rj.n rj.n' ri.w)
    | false => true
def rowsOk (M : List Nat) (rows : List Row) : Bool := (List.range rows.length).all fun j => match rows[j]? with
  | some rj => quiet rj || (List.range rows.length).all fun i => match rows[i]? with
    | some ri => pairOk M i j ri rj
    | none => true
  | none => true
theorem rows_apart {M : List Nat} {rows : List Row} (h : rowsOk M rows = true) {i j : Nat} {ri rj : Row} (hi : rows[i]? = some ri) (hj : rows[j]? = some rj) (hij : i < j) :
    Nat.testBit (M.getD j 0) i = true ∨ ((∀ b, b ∈ ri.w ∨ (ri.n ≤ b ∧ b < ri.n') → b ∉ rj.r ∧ b ∉ rj.w) ∧ (∀ b ∈ rj.w, b ∉ ri.r ∧ b ∉ ri.w)) := by
  have get : ∀ {x y : Nat} {rx ry : Row}, rows[x]? = some rx → rows[y]? = some ry → quiet ry = true ∨ pairOk M x y rx ry = true := by
    intro x y rx ry hx hy
    have hyl := (List.getElem?_eq_some_iff.1 hy).1
    have hxl := (List.getElem?_eq_some_iff.1 hx).1
    have h1 := List.all_eq_true.1 h y (List.mem_range.2 hyl)
    simp only [hy, Bool.or_eq_true] at h1
    refine h1.imp (fun h => h) fun h1 => ?_
    have h2 := List.all_eq_true.1 h1 x (List.mem_range.2 hxl)
    simpa only [hx] using h2
  have hq : ∀ {r : Row}, quiet r = true → r.w = [] ∧ r.n = r.n' := by
    intro r hr
    unfold quiet at hr
    split at hr
    · rename_i e; exact ⟨e, Nat.eq_of_beq_eq_true hr⟩
    · cases hr
  have hij' : Nat.blt i j = true := blt_true hij
  have hji' : Nat.blt j i = false := blt_false (by omega)
  by_cases hbit : Nat.testBit (M.getD j 0) i = true
  · exact .inl hbit
  · right
    constructor
    · intro b hb
      rcases get hj hi with h1 | h1
      · obtain ⟨e1, e2⟩ := hq h1
        rw [e1, e2] at hb
        simp at hb
        omega
      · simp only [pairOk, hji', hij'] at h1
        simp only [Bool.or_eq_true, Bool.and_eq_true] at h1
        rcases h1 with h1 | h1
        · exact absurd h1 hbit
        · have a1 := noneIn_iff.1 h1.1
          have a2 := noneIn_iff.1 h1.2
          refine ⟨fun hm => ?_, fun hm => ?_⟩
          · rcases hb with hb | hb
            · exact (a1 b hm).1 hb
            · exact (a1 b hm).2 hb
          · rcases hb with hb | hb
            · exact (a2 b hm).1 hb
            · exact (a2 b hm).2 hb
    · intro b hb
      rcases get hi hj with h1 | h1
      · obtain ⟨e1, e2⟩ := hq h1
        rw [e1] at hb; cases hb
      · simp only [pairOk, hij', Bool.or_eq_true, Bool.and_eq_true] at h1
        rcases h1 with h1 | h1
        · exact absurd h1 hbit
        · exact ⟨fun hm => (noneIn_iff.1 h1.1 b hm).1 hb, fun hm => (noneIn_iff.1 h1.2 b hm).1 hb⟩

/-! ### the run -/
def evRows (P : Program) (inv : InvT) (ops : List Oper) : List Oper → Tm → Heap → Option (Tm × Heap × List Row)
  | [], tm, h => some (tm, h, [])
  | o :: r, tm, h => match wantV ops tm o with
    | some true => match evOp P inv tm ⟨h, h.n, [], []⟩ o with
      | some (v, s') => match evRows P inv ops r (tm.put o.dst v) s'.h with
        | some (tm', h', rows) => some (tm', h', ⟨s'.fr, s'.fw, h.n, s'.h.n⟩ :: rows)
        | none => none
      | none => none
    | some false => match evRows P inv ops r (tm.put o.dst undefV) h with
      | some (tm', h', rows) => some (tm', h', ⟨[], [], h.n, h.n⟩ :: rows)
      | none => none
    | none => none
def addRs (n0 : Nat) : List Row → List Nat → List Nat
  | [], acc => acc
  | r :: rs, acc => addF n0 r.r (addRs n0 rs acc)
def addWs (n0 : Nat) : List Row → List Nat → List Nat
  | [], acc => acc
  | r :: rs, acc => addF n0 r.w (addWs n0 rs acc)
theorem mem_addRs {n0 b : Nat} : ∀ {rows : List Row} {acc : List Nat}, (b ∈ acc → b ∈ addRs n0 rows acc) ∧ (∀ r ∈ rows, b ∈ r.r → b < n0 → b ∈ addRs n0 rows acc)
  | [], acc => ⟨fun h => h, fun r h => by cases h⟩
  | x :: rows, acc => ⟨fun h => mem_addF.2 (.inr (mem_addRs.1 h)), fun r hr hb hn => by
      rcases List.mem_cons.1 hr with rfl | hr
      · exact mem_addF.2 (.inl ⟨hb, hn⟩)
      · exact mem_addF.2 (.inr (mem_addRs.2 r hr hb hn))⟩
theorem mem_addWs {n0 b : Nat} : ∀ {rows : List Row} {acc : List Nat}, (b ∈ acc → b ∈ addWs n0 rows acc) ∧ (∀ r ∈ rows, b ∈ r.w → b < n0 → b ∈ addWs n0 rows acc)
  | [], acc => ⟨fun h => h, fun r h => by cases h⟩
  | x :: rows, acc => ⟨fun h => mem_addF.2 (.inr (mem_addWs.1 h)), fun r hr hb hn => by
      rcases List.mem_cons.1 hr with rfl | hr
      · exact mem_addF.2 (.inl ⟨hb, hn⟩)
      · exact mem_addF.2 (.inr (mem_addWs.2 r hr hb hn))⟩

def evDraw (P : Program) (inv : InvT) (ops : List Oper) (tm : Tm) (s : St) : Option (Tm × St) := match staticOk ops with
  | true => match evRows P inv ops ops tm s.h with
    | some (tm', h', rows) => match rowsOk (masks ops []) rows with
      | true => some (tm', ⟨h', s.n0, addRs s.n0 rows s.fr, addWs s.n0 rows s.fw⟩)
      | false => none
    | none => none
  | false => none

theorem evRows_run {inv : InvT} (hi : InvGood P inv) (ops : List Oper) : ∀ (l : List Oper) (tm tm' : Tm) (h h' : Heap) (rows : List Row), evRows P inv ops l tm h = some (tm', h', rows) →
    ∃ (hs : Nat → Heap) (tms : Nat → Tm) (vs : Nat → V) (R W : Nat → Set'), hs 0 = h ∧ tms 0 = tm ∧ hs l.length = h' ∧ tms l.length = tm' ∧ rows.length = l.length ∧
      ∀ i o, l[i]? = some o → ∃ row, rows[i]? = some row ∧ row.n = (hs i).n ∧ row.n' = (hs (i + 1)).n ∧ (∀ b, b < (hs i).n → (R i b → b ∈ row.r) ∧ (W i b → b ∈ row.w)) ∧ tms (i + 1) = (tms i).put o.dst (vs i) ∧ VF (hs i) (hs (i + 1)) (W i) ∧
        ((wantV ops (tms i) o = some true ∧ ∀ rd, OpOk P rd o (tms i) (hs i) (vs i) (hs (i + 1)) (R i) (W i)) ∨ (wantV ops (tms i) o = some false ∧ vs i = undefV ∧ hs (i + 1) = hs i ∧ (∀ b, ¬ W i b)))
  | [], tm, tm', h, h', rows, hv => by
    cases hv
    exact ⟨fun _ => h, fun _ => tm, fun _ => undefV, fun _ _ => False, fun _ _ => False, rfl, rfl, rfl, rfl, rfl, fun i o ho => by simp at ho⟩
  | o :: r, tm, tm', h, h', rows, hv => by
    unfold evRows at hv
    split at hv
    · rename_i hw
      split at hv
      · rename_i v s' h1
        split at hv
        · rename_i tm2 h2 rows2 h3
          cases hv
          obtain ⟨l1, ok1⟩ := evOp_ok hi h1
          obtain ⟨hs, tms, vs, R, W, e1, e2, e3, e4, e5, e6⟩ := evRows_run hi ops r _ _ _ _ _ h3
          refine ⟨fun k => Nat.casesOn k h hs, fun k => Nat.casesOn k tm tms, fun k => Nat.casesOn k v vs, fun k => Nat.casesOn k s'.R R, fun k => Nat.casesOn k s'.W W, rfl, rfl, e3, e4, by simp [e5], fun i q hq => ?_⟩
          cases i with
          | zero =>
            simp at hq; subst hq
            refine ⟨_, rfl, rfl, by show s'.h.n = (hs 0).n; rw [e1], fun b hb => ?_, by exact e2, by show VF h (hs 0) s'.W; rw [e1]; exact (ok1 none).1, .inl ⟨hw, fun rd => ?_⟩⟩
            · have hn0 : s'.n0 = h.n := l1.n0
              have hb' : b < h.n := hb
              exact ⟨fun h => h.resolve_left (by rw [hn0]; omega), fun h => h.resolve_left (by rw [hn0]; omega)⟩
            · show OpOk P rd o tm h v (hs 0) s'.R s'.W
              rw [e1]; exact ok1 rd
          | succ i => exact e6 i q (by simpa using hq)
        · cases hv
      · cases hv
    · rename_i hw
      split at hv
      · rename_i tm2 h2 rows2 h3
        cases hv
        obtain ⟨hs, tms, vs, R, W, e1, e2, e3, e4, e5, e6⟩ := evRows_run hi ops r _ _ _ _ _ h3
        refine ⟨fun k => Nat.casesOn k h hs, fun k => Nat.casesOn k tm tms, fun k => Nat.casesOn k undefV vs, fun k => Nat.casesOn k (fun _ => False) R, fun k => Nat.casesOn k (fun _ => False) W, rfl, rfl, e3, e4, by simp [e5], fun i q hq => ?_⟩
        cases i with
        | zero =>
          simp at hq; subst hq
          refine ⟨_, rfl, rfl, by show h.n = (hs 0).n; rw [e1], fun b hb => ⟨fun h => h.elim, fun h => h.elim⟩, by exact e2, by show VF h (hs 0) _; rw [e1]; exact VF.refl _ _, .inr ⟨hw, rfl, e1, fun b h => h⟩⟩
        | succ i => exact e6 i q (by simpa using hq)
      · cases hv
    · cases hv

theorem evDraw_ok (hm : P.follows .mixedOrders = true) {inv : InvT} (hi : InvGood P inv) (opsA : Array Oper) {tm tm' : Tm} {s s' : St} (hv : evDraw P inv opsA.toList tm s = some (tm', s')) :
    s.le s' ∧ VF s.h s'.h s'.W ∧ ∀ rd rid H σ w a Q, Pre P s.h s'.h s'.R s'.W H σ w → TRel σ tm a.tmps →
      (∀ σ' H' a' w', a'.defers = a.defers → TRel σ' tm' a'.tmps → Step P s.h s'.h s'.W H H' σ σ' w w' → Q .normal a' w') → (Code.region rid opsA true).wpIn (FW rd) 0 P Q a w := by
  unfold evDraw at hv
  split at hv
  · rename_i hst
    split at hv
    · rename_i tm2 h2 rows hr
      split at hv
      · rename_i hrow
        cases hv
        obtain ⟨hs, tms, vs, R, W, e1, e2, e3, e4, e5, e6⟩ := evRows_run hi opsA.toList opsA.toList _ _ _ _ _ hr
        have hlen : opsA.toList.length = opsA.size := by simp
        rw [hlen] at e3 e4 e5
        have e6' : ∀ i o, opsA[i]? = some o → _ := fun i o ho => e6 i o (by simpa using ho)
        have run : ∀ rd, Run P rd opsA hs tms vs R W := by
          intro rd
          refine ⟨fun i o ho => ?_, fun i o ho e he hb => ?_, fun i j oi oj hij hoi hoj => ?_, fun i j hij hj => ?_⟩
          · obtain ⟨row, _, _, _, _, h1, h2, h3⟩ := e6' i o ho
            exact ⟨h1, h2, h3.imp (fun ⟨a, b⟩ => ⟨a, b rd⟩) fun h => h⟩
          · exact static_edge hst (by simpa using ho) he hb
          · exact static_tmps hst hij (by simpa using hoi) (by simpa using hoj)
          · have hi' : i < opsA.size := by omega
            obtain ⟨ri, g1, g2, g3, g4, _⟩ := e6' i _ (Array.getElem?_eq_getElem hi')
            obtain ⟨rj, k1, k2, k3, k4, _⟩ := e6' j _ (Array.getElem?_eq_getElem hj)
            rcases rows_apart hrow g1 k1 hij with h | h
            · exact .inl (masks_ok h)
            · right
              refine ⟨fun b hb hbj => ?_, fun b hb hbi => ?_⟩
              · have hb' : b ∈ ri.w ∨ (ri.n ≤ b ∧ b < ri.n') := by
                  rcases hb with hb | hb
                  · exact .inl ((g4 b hb.1).2 hb.2)
                  · exact .inr ⟨by rw [g2]; exact hb.1, by rw [g3]; exact hb.2⟩
                rcases hbj.2 with h' | h'
                · exact (h.1 b hb').1 ((k4 b hbj.1).1 h')
                · exact (h.1 b hb').2 ((k4 b hbj.1).2 h')
              · have hb' := (k4 b hb.1).2 hb.2
                rcases hbi.2 with h' | h'
                · exact (h.2 b hb').1 ((g4 b hbi.1).1 h')
                · exact (h.2 b hb').2 ((g4 b hbi.1).2 h')
        have hsub : ∀ k b, k < opsA.size → b < (hs 0).n → b < (hs k).n := fun k b hk hb => Nat.lt_of_lt_of_le hb ((run none).n_mono (Nat.zero_le _) (by omega))
        have hR : ∀ k b, k < opsA.size → b < (hs 0).n → R k b → s.n0 ≤ b ∨ b ∈ addRs s.n0 rows s.fr := by
          intro k b hk hb hRb
          obtain ⟨row, g1, g2, g3, g4, _⟩ := e6' k _ (Array.getElem?_eq_getElem hk)
          rcases Nat.lt_or_ge b s.n0 with h | h
          · exact .inr (mem_addRs.2 row (List.mem_of_getElem? g1) ((g4 b (hsub k b hk hb)).1 hRb) h)
          · exact .inl h
        have hW : ∀ k b, k < opsA.size → b < (hs 0).n → W k b → s.n0 ≤ b ∨ b ∈ addWs s.n0 rows s.fw := by
          intro k b hk hb hWb
          obtain ⟨row, g1, g2, g3, g4, _⟩ := e6' k _ (Array.getElem?_eq_getElem hk)
          rcases Nat.lt_or_ge b s.n0 with h | h
          · exact .inr (mem_addWs.2 row (List.mem_of_getElem? g1) ((g4 b (hsub k b hk hb)).2 hWb) h)
          · exact .inl h
        refine ⟨⟨rfl, fun b hb => mem_addRs.1 hb, fun b hb => mem_addWs.1 hb⟩, ?_, fun rd rid H σ w a Q p ht hQ => ?_⟩
        · have : ∀ k, k ≤ opsA.size → VF (hs 0) (hs k) (fun b => s.n0 ≤ b ∨ b ∈ addWs s.n0 rows s.fw) := by
            intro k
            induction k with
            | zero => intro _; exact VF.refl _ _
            | succ k ih =>
              intro hk
              have h1 := ih (by omega)
              have h2 := (run none).vf (i := k) (by omega)
              refine ⟨Nat.le_trans h1.n h2.n, fun b hb hw => ?_⟩
              rw [h2.get b (hsub k b (by omega) hb) fun hwk => hw (hW k b (by omega) hb hwk), h1.get b hb hw]
          have := this opsA.size (Nat.le_refl _)
          rwa [e1, e3] at this
        · have p' : Pre P (hs 0) (hs opsA.size) (fun b => s.n0 ≤ b ∨ b ∈ addRs s.n0 rows s.fr) (fun b => s.n0 ≤ b ∨ b ∈ addWs s.n0 rows s.fw) H σ w := by rw [e1, e3]; exact p
          refine wp_draw hm (vrd := rd) (run rd) hR hW p' (by rw [e2]; exact ht) fun σ' H' a' w' h1 h2 h3 => hQ σ' H' a' w' h1 (by rw [e4] at h2; exact h2) ?_
          rw [e1, e3] at h3; exact h3
      · cases hv
    · cases hv
  · cases hv

end Go.Vm
