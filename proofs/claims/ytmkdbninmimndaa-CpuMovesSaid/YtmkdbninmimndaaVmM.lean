/- A statement whose order is open: the virtual machine runs it in the order of the text; it is the same in whatever order its edges allow, where what is written is apart. -/
import Derived.Test.YtmkdbninmimndaaVmL
set_option linter.unusedVariables false
set_option linter.unusedSimpArgs false
namespace Go.Vm
variable {P : Program}

theorem last_writer {X α : Type} {m : Nat} {D : Nat → Prop} {Wt : Nat → X → Prop} {x : X} {j : Nat} (hj : j ≤ m) {val : Nat → α} (G : α → Prop)
    (frame : ∀ i, i < m → ¬ Wt i x → val (i + 1) = val i)
    (ord1 : ∀ i, i < j → Wt i x → D i) (ord2 : ∀ i, i < m → j < i → Wt i x → ¬ D i) (hDj : j < m → ¬ D j)
    (h0 : (∀ i, i < m → D i → ¬ Wt i x) → G (val 0))
    (h1 : ∀ i, i < m → D i → Wt i x → (∀ i', i' < m → D i' → i < i' → ¬ Wt i' x) → G (val (i + 1))) : G (val j) := by
  have key : ∀ k, k ≤ j → (∀ i, k ≤ i → i < j → ¬ Wt i x) → G (val j) ∨ val j = val k := by
    intro k hk hn
    right
    obtain ⟨d, rfl⟩ := Nat.exists_eq_add_of_le hk
    clear hk
    have : ∀ d', d' ≤ d → val (k + d') = val k := by
      intro d'
      induction d' with
      | zero => intro _; rfl
      | succ d' ih => intro h; rw [← ih (by omega), ← Nat.add_assoc]; exact frame (k + d') (by omega) (hn _ (by omega) (by omega))
    exact this d (Nat.le_refl _)
  have main : ∀ k, k ≤ j → (∀ i, k ≤ i → i < j → ¬ Wt i x) → G (val j) := by
    intro k
    induction k with
    | zero =>
      intro hk hn
      rcases key 0 hk hn with h | h
      · exact h
      · rw [h]
        refine h0 fun i hi hD hw => ?_
        rcases Nat.lt_trichotomy i j with h' | h' | h'
        · exact hn i (Nat.zero_le _) h' hw
        · subst h'; exact hDj hi hD
        · exact ord2 i hi h' hw hD
    | succ k ih =>
      intro hk hn
      by_cases hw : Wt k x
      · rcases key (k + 1) hk hn with h | h
        · exact h
        · rw [h]
          refine h1 k (by omega) (ord1 k (by omega) hw) hw fun i' hi' hD' hlt hw' => ?_
          rcases Nat.lt_trichotomy i' j with h' | h' | h'
          · exact hn i' (by omega) h' hw'
          · subst h'; exact hDj hi' hD'
          · exact ord2 i' hi' h' hw' hD'
      · refine ih (by omega) fun i hi hlt => ?_
        rcases Nat.lt_or_ge i (k + 1) with h' | h'
        · have : i = k := by omega
          subst this; exact hw
        · exact hn i h' hlt
  exact main j (Nat.le_refl _) fun i h1 h2 => by omega

/-- The temporaries that an operation names. -/
def looks (ops : List Oper) (o : Oper) : List Tmp :=
  (o.op.operands.toList.filterMap fun | .tmp t => some t | _ => none) ++
  (match o.guard with
   | some (g, _) => match ops[g]? with
     | some q => q.dst.toList
     | none => []
   | none => [])

def Closed (ops : List Oper) (D : Nat → Prop) : Prop := ∀ k o, ops[k]? = some o → D k → ∀ e ∈ o.after, Region.binds .any e = true → D e.on
def Bef (ops : List Oper) (i j : Nat) : Prop := ∀ D, Closed ops D → D j → D i

/-- What a run in the order of the text was. -/
structure Run (P : Program) (rd : Option Nat) (opsA : Array Oper) (hs : Nat → Heap) (tms : Nat → Tm) (vs : Nat → V) (R W : Nat → Set') : Prop where
  step : ∀ i o, opsA[i]? = some o → tms (i + 1) = (tms i).put o.dst (vs i) ∧ VF (hs i) (hs (i + 1)) (W i) ∧
    ((wantV opsA.toList (tms i) o = some true ∧ OpOk P rd o (tms i) (hs i) (vs i) (hs (i + 1)) (R i) (W i)) ∨
     (wantV opsA.toList (tms i) o = some false ∧ vs i = undefV ∧ hs (i + 1) = hs i ∧ (∀ b, ¬ W i b)))
  edge : ∀ i o, opsA[i]? = some o → ∀ e ∈ o.after, Region.binds .any e = true → e.on < i
  apartT : ∀ i j oi oj, i < j → opsA[i]? = some oi → opsA[j]? = some oj → Bef opsA.toList i j ∨ ((∀ t, oi.dst = some t → t ∉ looks opsA.toList oj ∧ oj.dst ≠ some t) ∧ (∀ t, oj.dst = some t → t ∉ looks opsA.toList oi))
  apartH : ∀ i j, i < j → j < opsA.size → Bef opsA.toList i j ∨ ((∀ b, (b < (hs i).n ∧ W i b) ∨ New (hs i) (hs (i + 1)) b → ¬ (b < (hs j).n ∧ (R j b ∨ W j b))) ∧ (∀ b, b < (hs j).n ∧ W j b → ¬ (b < (hs i).n ∧ (R i b ∨ W i b))))

section
variable {rd : Option Nat} {opsA : Array Oper} {hs : Nat → Heap} {tms : Nat → Tm} {vs : Nat → V} {R W : Nat → Set'}

def WtB (hs : Nat → Heap) (W : Nat → Set') (i : Nat) (b : Nat) : Prop := (b < (hs i).n ∧ W i b) ∨ New (hs i) (hs (i + 1)) b
def WtT (opsA : Array Oper) (i : Nat) (t : Tmp) : Prop := ∃ o, opsA[i]? = some o ∧ o.dst = some t
def ND (m : Nat) (hs : Nat → Heap) (D : Nat → Prop) : Set' := fun b => ∃ i, i < m ∧ D i ∧ New (hs i) (hs (i + 1)) b
def WD (m : Nat) (hs : Nat → Heap) (W : Nat → Set') (D : Nat → Prop) : Set' := fun b => b < (hs 0).n ∧ ∃ i, i < m ∧ D i ∧ W i b

theorem Run.get (r : Run P rd opsA hs tms vs R W) {i : Nat} (hi : i < opsA.size) : ∃ o, opsA[i]? = some o := ⟨_, Array.getElem?_eq_getElem hi⟩
theorem Run.n_mono (r : Run P rd opsA hs tms vs R W) {i j : Nat} (h : i ≤ j) (hj : j ≤ opsA.size) : (hs i).n ≤ (hs j).n := by
  obtain ⟨d, rfl⟩ := Nat.exists_eq_add_of_le h
  clear h
  induction d with
  | zero => exact Nat.le_refl _
  | succ d ih =>
    obtain ⟨o, ho⟩ := r.get (i := i + d) (by omega)
    exact Nat.le_trans (ih (by omega)) (r.step _ o ho).2.1.n
theorem Run.vf (r : Run P rd opsA hs tms vs R W) {i : Nat} (hi : i < opsA.size) : VF (hs i) (hs (i + 1)) (W i) := by
  obtain ⟨o, ho⟩ := r.get hi; exact (r.step i o ho).2.1
theorem Run.frameB (r : Run P rd opsA hs tms vs R W) {i b : Nat} (hi : i < opsA.size) (hw : ¬ WtB hs W i b) : (hs (i + 1)).get b = (hs i).get b := by
  have hv := r.vf hi
  rcases Nat.lt_or_ge b (hs i).n with h | h
  · exact hv.get b h fun hh => hw (.inl ⟨h, hh⟩)
  · rw [Heap.get_ge h]
    rcases Nat.lt_or_ge b (hs (i + 1)).n with h' | h'
    · exact absurd (.inr ⟨h, h'⟩) hw
    · exact Heap.get_ge h'
theorem Run.frameT (r : Run P rd opsA hs tms vs R W) {i : Nat} {t : Tmp} (hi : i < opsA.size) (hw : ¬ WtT opsA i t) : (tms (i + 1)).get t = (tms i).get t := by
  obtain ⟨o, ho⟩ := r.get hi
  rw [(r.step i o ho).1]
  cases hd : o.dst with
  | none => rfl
  | some d =>
    refine Tm.get_set_ne _ _ _ _ fun e => hw ⟨o, ho, by rw [hd, e]⟩
/-- A block that was new within the statement was made by one of the operations ahead. -/
theorem Run.made (r : Run P rd opsA hs tms vs R W) {j b : Nat} (hj : j ≤ opsA.size) (h0 : (hs 0).n ≤ b) (hb : b < (hs j).n) : ∃ i, i < j ∧ New (hs i) (hs (i + 1)) b := by
  induction j with
  | zero => omega
  | succ j ih =>
    rcases Nat.lt_or_ge b (hs j).n with h | h
    · obtain ⟨i, h1, h2⟩ := ih (by omega) h
      exact ⟨i, by omega, h2⟩
    · exact ⟨j, by omega, h, hb⟩

/-- The run as far as the operations D have been carried out, in whatever order. -/
structure RInv (P : Program) (opsA : Array Oper) (hs : Nat → Heap) (tms : Nat → Tm) (W : Nat → Set') (H0 : HF) (σ0 : Ren) (w0 : World) (arr0 : Array Value) (ds : List Deferred) (D : Nat → Prop) (σ : Ren) (H : HF) (a : Act) (w : World) : Prop where
  closed : Closed opsA.toList D
  goes : Goes P (ND opsA.size hs D) (WD opsA.size hs W D) H0 H σ0 σ w0 w
  h0 : ∀ b, (∀ i, i < opsA.size → D i → ¬ WtB hs W i b) → H b = H0 b
  h1 : ∀ b i, i < opsA.size → D i → WtB hs W i b → (∀ i', i' < opsA.size → D i' → i < i' → ¬ WtB hs W i' b) → H b = (hs (i + 1)).get b
  size : a.tmps.size = (tms 0).n
  t0 : ∀ t, (∀ i, i < opsA.size → D i → ¬ WtT opsA i t) → ∀ u, (tms 0).get t = some u → VRel σ u (a.tmps.getD t undef)
  t1 : ∀ t i, i < opsA.size → D i → WtT opsA i t → (∀ i', i' < opsA.size → D i' → i < i' → ¬ WtT opsA i' t) → ∀ u, (tms (i + 1)).get t = some u → VRel σ u (a.tmps.getD t undef)
  defers : a.defers = ds

variable {H0 : HF} {σ0 : Ren} {w0 : World} {arr0 : Array Value} {ds : List Deferred} {D : Nat → Prop} {σ : Ren} {H : HF} {a : Act} {w : World}

theorem before_done (hc : Closed opsA.toList D) {j : Nat} (hready : ∀ o, opsA[j]? = some o → ∀ e ∈ o.after, Region.binds .any e = true → D e.on) {i : Nat} (hb : Bef opsA.toList i j) (hne : i ≠ j) : D i := by
  have := hb (fun k => D k ∨ k = j) (fun k o ho hk e he hbi => by
    have ho' : opsA[k]? = some o := by simpa using ho
    rcases hk with hk | rfl
    · exact .inl (hc k o ho hk e he hbi)
    · exact .inl (hready o ho' e he hbi)) (.inr rfl)
  exact this.resolve_right hne

theorem RInv.blocks (r : Run P rd opsA hs tms vs R W) (i : RInv P opsA hs tms W H0 σ0 w0 arr0 ds D σ H a w) {Rt Wt' : Set'} (p0 : Pre P (hs 0) (hs opsA.size) Rt Wt' H0 σ0 w0)
    (hRW : ∀ k b, k < opsA.size → b < (hs 0).n → R k b ∨ W k b → Rt b ∨ Wt' b) {j : Nat} (hj : j ≤ opsA.size) (hjD : j < opsA.size → ¬ D j)
    (hready : ∀ o, opsA[j]? = some o → ∀ e ∈ o.after, Region.binds .any e = true → D e.on) (hall : j = opsA.size → ∀ k, k < opsA.size → D k)
    {b : Nat} (hb : b < (hs j).n) (hR : (j < opsA.size → R j b ∨ W j b) ∧ (j = opsA.size → b < (hs 0).n → Rt b ∨ Wt' b)) : H b = (hs j).get b := by
  refine last_writer (D := D) (Wt := WtB hs W) (x := b) (m := opsA.size) hj (val := fun k => (hs k).get b) (fun y => H b = y) (fun k hk hw => r.frameB hk hw) ?_ ?_ hjD ?_ ?_
  · intro k hk hw
    rcases Nat.lt_or_ge j opsA.size with h | h
    · rcases r.apartH k j hk h with h' | h'
      · exact before_done i.closed hready h' (by omega)
      · exact absurd ⟨hb, hR.1 h⟩ (h'.1 b hw)
    · exact hall (by omega) k (by omega)
  · intro k hk hjk hw hD
    rcases r.apartH j k hjk hk with h' | h'
    · exact hjD (by omega) (h' D i.closed hD)
    · rcases hw with hw | hw
      · exact h'.2 b hw ⟨hb, hR.1 (by omega)⟩
      · have := r.n_mono (i := j) (j := k) (by omega) (by omega)
        have := hw.1; omega
  · intro hn
    rw [i.h0 b hn]
    rcases Nat.lt_or_ge b (hs 0).n with h | h
    · rcases Nat.lt_or_ge j opsA.size with h' | h'
      · exact p0.agree b h (hRW j b h' h (hR.1 h'))
      · exact p0.agree b h (hR.2 (by omega) h)
    · rw [Heap.get_ge h]
      exact (p0.fresh b ⟨h, Nat.lt_of_lt_of_le hb (r.n_mono hj (Nat.le_refl _))⟩).2
  · intro k hk hD hw hn
    exact i.h1 b k hk hD hw hn

theorem RInv.temps (r : Run P rd opsA hs tms vs R W) (i : RInv P opsA hs tms W H0 σ0 w0 arr0 ds D σ H a w) {j : Nat} (hj : j ≤ opsA.size) (hjD : j < opsA.size → ¬ D j)
    (hready : ∀ o, opsA[j]? = some o → ∀ e ∈ o.after, Region.binds .any e = true → D e.on) (hall : j = opsA.size → ∀ k, k < opsA.size → D k)
    {t : Tmp} (ht : ∀ o, opsA[j]? = some o → t ∈ looks opsA.toList o) {u : V} (hu : (tms j).get t = some u) : VRel σ u (a.tmps.getD t undef) := by
  refine last_writer (D := D) (Wt := WtT opsA) (x := t) (m := opsA.size) hj (val := fun k => (tms k).get t) (fun y => ∀ u, y = some u → VRel σ u (a.tmps.getD t undef)) (fun k hk hw => r.frameT hk hw) ?_ ?_ hjD ?_ ?_ u hu
  · rintro k hk ⟨ok, hok, hdk⟩
    rcases Nat.lt_or_ge j opsA.size with h | h
    · obtain ⟨oj, hoj⟩ := r.get h
      rcases r.apartT k j ok oj hk hok hoj with h' | h'
      · exact before_done i.closed hready h' (by omega)
      · exact absurd (ht oj hoj) (h'.1 t hdk).1
    · exact hall (by omega) k (by omega)
  · rintro k hk hjk ⟨ok, hok, hdk⟩ hD
    obtain ⟨oj, hoj⟩ := r.get (i := j) (by omega)
    rcases r.apartT j k oj ok hjk hoj hok with h' | h'
    · exact hjD (by omega) (h' D i.closed hD)
    · exact h'.2 t hdk (ht oj hoj)
  · intro hn u hu; exact i.t0 t hn u hu
  · intro k hk hD hw hn u hu; exact i.t1 t k hk hD hw hn u hu

/-- One operation more. -/
theorem RInv.next (r : Run P rd opsA hs tms vs R W) (i : RInv P opsA hs tms W H0 σ0 w0 arr0 ds D σ H a w) {Rt Wt' : Set'} (p0 : Pre P (hs 0) (hs opsA.size) Rt Wt' H0 σ0 w0)
    {j : Nat} {o : Oper} (ho : opsA[j]? = some o) (hjD : ¬ D j) (hready : ∀ e ∈ o.after, Region.binds .any e = true → D e.on)
    {σ' : Ren} {H' : HF} {w' : World} {x : Value} (hs' : Step P (hs j) (hs (j + 1)) (W j) H H' σ σ' w w') (hx : VRel σ' (vs j) x)
    {D' : Nat → Prop} (hD' : ∀ k, D' k ↔ D k ∨ k = j) : RInv P opsA hs tms W H0 σ0 w0 arr0 ds D' σ' H' (a.put o.dst x) w' := by
  have hj : j < opsA.size := (Array.getElem?_eq_some_iff.1 ho).1
  have hready' : ∀ o', opsA[j]? = some o' → ∀ e ∈ o'.after, Region.binds .any e = true → D e.on := fun o' h => by rw [ho] at h; cases h; exact hready
  have njn := r.n_mono (i := 0) (j := j) (Nat.zero_le _) (by omega)
  have njm := r.n_mono (i := j + 1) (j := opsA.size) (by omega) (Nat.le_refl _)
  have later : ∀ k b, k < opsA.size → D k → WtB hs W k b → WtB hs W j b → k < j := by
    intro k b hk hDk hwk hwj
    rcases Nat.lt_trichotomy k j with h | h | h
    · exact h
    · subst h; exact absurd hDk hjD
    · exfalso
      have hle := r.n_mono (i := j + 1) (j := k) (by omega) (by omega)
      have hlt : b < (hs (j + 1)).n := by
        rcases hwj with h' | h'
        · exact Nat.lt_of_lt_of_le h'.1 (r.vf hj).n
        · exact h'.2
      rcases r.apartH j k h hk with h' | h'
      · exact hjD (h' D i.closed hDk)
      · rcases hwk with h2 | h2
        · exact h'.1 b hwj ⟨h2.1, .inr h2.2⟩
        · have := h2.1; omega
  have laterT : ∀ k t, k < opsA.size → D k → WtT opsA k t → WtT opsA j t → k < j := by
    rintro k t hk hDk ⟨ok, hok, hdk⟩ ⟨oj, hoj, hdj⟩
    rcases Nat.lt_trichotomy k j with h | h | h
    · exact h
    · subst h; exact absurd hDk hjD
    · exfalso
      rcases r.apartT j k oj ok h hoj hok with h' | h'
      · exact hjD (h' D i.closed hDk)
      · exact (h'.1 t hdj).2 hdk
  have hput : ∀ t, ¬ WtT opsA j t → (a.put o.dst x).tmps.getD t undef = a.tmps.getD t undef := by
    intro t ht
    cases hd : o.dst with
    | none => rfl
    | some d =>
      have hne : d ≠ t := fun e => ht ⟨o, ho, by rw [hd, e]⟩
      simp [Act.put, Array.getD_eq_getD_getElem?, Array.getElem?_setIfInBounds_ne hne]
  refine ⟨?_, ?_, ?_, ?_, ?_, ?_, ?_, ?_⟩
  · intro k ok hok hk e he hb
    rcases (hD' k).1 hk with h | rfl
    · exact (hD' _).2 (.inl (i.closed k ok hok h e he hb))
    · have hok' : opsA[k]? = some ok := by simpa using hok
      exact (hD' _).2 (.inl (hready' ok hok' e he hb))
  · refine Goes.trans i.goes hs'.goes (fun b => ?_) (fun b hb => .inl ⟨hb.1, let ⟨k, h1, h2, h3⟩ := hb.2; ⟨k, h1, (hD' k).2 (.inl h2), h3⟩⟩) (fun b hb => ?_) (fun b hb hl => ?_)
    · constructor
      · rintro ⟨k, h1, h2, h3⟩
        rcases (hD' k).1 h2 with h | rfl
        · exact .inl ⟨k, h1, h, h3⟩
        · exact .inr h3
      · rintro (⟨k, h1, h2, h3⟩ | h)
        · exact ⟨k, h1, (hD' k).2 (.inl h2), h3⟩
        · exact ⟨j, hj, (hD' j).2 (.inr rfl), h⟩
    · rcases Nat.lt_or_ge b (hs 0).n with h | h
      · exact .inl ⟨h, j, hj, (hD' j).2 (.inr rfl), hb.2⟩
      · obtain ⟨k, hk, hkn⟩ := r.made (by omega) h hb.1
        refine .inr ⟨k, by omega, (hD' k).2 (.inl ?_), hkn⟩
        rcases r.apartH k j hk hj with h' | h'
        · exact before_done i.closed hready' h' (by omega)
        · exact absurd ⟨hb.1, .inr hb.2⟩ (h'.1 b (.inr hkn))
    · obtain ⟨k, h1, h2, h3⟩ := hb
      obtain ⟨ob, hob, _⟩ := hl
      have hk0 := r.n_mono (i := 0) (j := k) (Nat.zero_le _) (by omega)
      have hkm := r.n_mono (i := k + 1) (j := opsA.size) (by omega) (Nat.le_refl _)
      rw [(p0.fresh b ⟨Nat.le_trans hk0 h3.1, Nat.lt_of_lt_of_le h3.2 hkm⟩).2] at hob
      cases hob
  · intro b hn
    have hnj : ¬ WtB hs W j b := hn j hj ((hD' j).2 (.inr rfl))
    rw [hs'.goes.virt b (fun h => hnj (.inl h)) (fun h => hnj (.inr h))]
    exact i.h0 b fun k hk hDk => hn k hk ((hD' k).2 (.inl hDk))
  · intro b k hk hDk hw hn
    by_cases hwj : WtB hs W j b
    · have hkj : k = j := by
        rcases (hD' k).1 hDk with h | h
        · exact absurd hwj (hn j hj ((hD' j).2 (.inr rfl)) (later k b hk h hw hwj))
        · exact h
      subst hkj
      exact hs'.get b (hwj.elim .inr .inl)
    · rw [hs'.goes.virt b (fun h => hwj (.inl h)) (fun h => hwj (.inr h))]
      have hDk' : D k := by
        rcases (hD' k).1 hDk with h | rfl
        · exact h
        · exact absurd hw hwj
      exact i.h1 b k hk hDk' hw fun k' hk' hDk'' => hn k' hk' ((hD' k').2 (.inl hDk''))
  · rw [show (a.put o.dst x).tmps.size = a.tmps.size by cases o.dst <;> simp [Act.put]]; exact i.size
  · intro t hn u hu
    have hnj : ¬ WtT opsA j t := hn j hj ((hD' j).2 (.inr rfl))
    rw [hput t hnj]
    exact (i.t0 t (fun k hk hDk => hn k hk ((hD' k).2 (.inl hDk))) u hu).le hs'.goes.le
  · intro t k hk hDk hw hn u hu
    by_cases hwj : WtT opsA j t
    · have hkj : k = j := by
        rcases (hD' k).1 hDk with h | h
        · exact absurd hwj (hn j hj ((hD' j).2 (.inr rfl)) (laterT k t hk h hw hwj))
        · exact h
      subst hkj
      obtain ⟨o', ho', hd⟩ := hwj
      rw [ho] at ho'; cases ho'
      rw [(r.step k o ho).1, hd] at hu
      have hnn : ∀ q, q ≤ opsA.size → (tms q).n = (tms 0).n := by
        intro q
        induction q with
        | zero => intro _; rfl
        | succ q ih =>
          intro hq
          obtain ⟨oq, hoq⟩ := r.get (i := q) (by omega)
          rw [(r.step q oq hoq).1, ← ih (by omega)]
          cases oq.dst with
          | none => rfl
          | some d => exact Tm.n_set _ _ _
      simp only [Tm.put] at hu
      by_cases hlt : t < (tms k).n
      · rw [Tm.get_set _ _ _ _ hlt, if_pos rfl] at hu
        cases hu
        have : t < a.tmps.size := by rw [i.size, ← hnn k (by omega)]; exact hlt
        simpa [hd, Act.put, Array.getD_eq_getD_getElem?, this] using hx
      · have e1 : (tms k).set t (vs k) = tms k := by simp [Tm.set, blt_false hlt]
        rw [e1] at hu
        -- a slot beyond the frame: what it was
        have hsz : ¬ t < a.tmps.size := by rw [i.size, ← hnn k (by omega)]; exact hlt
        have hput' : (a.put o.dst x).tmps.getD t undef = a.tmps.getD t undef := by
          rw [hd]; simp [Act.put, Array.getD_eq_getD_getElem?, hsz]
        rw [hput']
        have hstep : ∀ q, q < opsA.size → (tms (q + 1)).get t = (tms q).get t := by
          intro q hq
          obtain ⟨oq, hoq⟩ := r.get hq
          rw [(r.step q oq hoq).1]
          cases hdq : oq.dst with
          | none => rfl
          | some d =>
            by_cases e : t = d
            · subst e
              simp only [Tm.put]
              have : ¬ t < (tms q).n := by rw [hnn q (by omega), ← hnn k (by omega)]; exact hlt
              simp [Tm.set, blt_false this]
            · exact Tm.get_set_ne _ _ _ _ e
        have hk0 : (tms k).get t = (tms 0).get t := by
          have : ∀ q, q ≤ k → (tms q).get t = (tms 0).get t := by
            intro q
            induction q with
            | zero => intro _; rfl
            | succ q ih => intro hq; rw [hstep q (by omega), ih (by omega)]
          exact this k (Nat.le_refl _)
        have all : ∀ q, q ≤ opsA.size → (tms q).get t = (tms 0).get t := by
          intro q
          induction q with
          | zero => intro _; rfl
          | succ q ih => intro hq; rw [hstep q (by omega), ih (by omega)]
        by_cases hex : ∃ q, q < opsA.size ∧ D q ∧ WtT opsA q t ∧ ∀ q', q' < opsA.size → D q' → q < q' → ¬ WtT opsA q' t
        · obtain ⟨q, h1, h2, h3, h4⟩ := hex
          exact (i.t1 t q h1 h2 h3 h4 u (by rw [all (q + 1) (by omega), ← hk0]; exact hu)).le hs'.goes.le
        · refine (i.t0 t (fun q hq hDq hwq => ?_) u (by rw [← hk0]; exact hu)).le hs'.goes.le
          -- there is a last writer among those done
          have : ∀ n, n ≤ opsA.size → (∃ q, q < n ∧ D q ∧ WtT opsA q t) → ∃ q, q < n ∧ D q ∧ WtT opsA q t ∧ ∀ q', q' < n → D q' → q < q' → ¬ WtT opsA q' t := by
            intro n
            induction n with
            | zero => rintro _ ⟨q, h, _⟩; omega
            | succ n ih =>
              rintro hn' ⟨q, h1, h2, h3⟩
              by_cases hw' : D n ∧ WtT opsA n t
              · exact ⟨n, by omega, hw'.1, hw'.2, fun q' h _ h' => by omega⟩
              · have : q < n := by
                  rcases Nat.lt_or_ge q n with h | h
                  · exact h
                  · have : q = n := by omega
                    subst this; exact absurd ⟨h2, h3⟩ hw'
                obtain ⟨q2, g1, g2, g3, g4⟩ := ih (by omega) ⟨q, this, h2, h3⟩
                refine ⟨q2, by omega, g2, g3, fun q' h hD hlt' hw2 => ?_⟩
                rcases Nat.lt_or_ge q' n with h' | h'
                · exact g4 q' h' hD hlt' hw2
                · have : q' = n := by omega
                  subst this; exact hw' ⟨hD, hw2⟩
          exact hex (this opsA.size (Nat.le_refl _) ⟨q, hq, hDq, hwq⟩)
    · rw [hput t hwj]
      have hDk' : D k := by
        rcases (hD' k).1 hDk with h | rfl
        · exact h
        · exact absurd hw hwj
      exact (i.t1 t k hk hDk' hw (fun k' hk' hDk'' => hn k' hk' ((hD' k').2 (.inl hDk''))) u hu).le hs'.goes.le
  · rw [show (a.put o.dst x).defers = a.defers by cases o.dst <;> rfl]; exact i.defers

end
end Go.Vm
