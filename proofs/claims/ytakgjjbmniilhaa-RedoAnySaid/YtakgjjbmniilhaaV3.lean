/- A call that writes nothing, and whose answer does not hang on what iterators choose: one answer, its new blocks numbered at will. -/
import Derived.Test.YtakgjjbmniilhaaV2
set_option linter.unusedVariables false
set_option linter.unusedVariables false
namespace Go.Vm
variable {P : Program}

end Go.Vm
set_option linter.unusedVariables false
namespace Go.Vm
variable {P : Program}

def upN {α : Type} (f : Nat → α) (m : Nat) (x : α) : Nat → α := fun k => if k ≤ m then f k else x
def upI {α : Type} (f : Nat → α) (m : Nat) (x : α) : Nat → α := fun k => if k < m then f k else x
theorem jF {α : Type} (f : Nat → α) {m k : Nat} (x : α) (h : k ≤ m) : upN f m x k = f k := if_pos h
theorem upN_gt {α : Type} (f : Nat → α) {m k : Nat} (x : α) (h : m < k) : upN f m x k = x := if_neg (by omega)
theorem upI_lt {α : Type} (f : Nat → α) {m k : Nat} (x : α) (h : k < m) : upI f m x k = f k := if_pos h
theorem upI_ge {α : Type} (f : Nat → α) {m k : Nat} (x : α) (h : m ≤ k) : upI f m x k = x := if_neg (by omega)

structure PRun (P : Program) (ops : List Oper) (X : Nat → Prop) (rd : Option Nat) (m : Nat) (hs : Nat → Heap) (tms : Nat → Tm) (vs : Nat → V) (R W : Nat → Set') (rows : List RowP) : Prop where
 len : rows.length = m
 row : ∀ i o, i < m → ops[i]? = some o → rows[i]? = some ⟨R i, W i, (hs i).n, (hs (i + 1)).n⟩ ∧ (still o = true → (∀ b, ¬ W i b) ∧ (hs (i + 1)).n = (hs i).n) ∧ tms (i + 1) = (tms i).put o.dst (vs i) ∧ VF (hs i) (hs (i + 1)) (W i) ∧
  ((wantV ops (tms i) o = some true ∧ (¬ X i → OpOk P rd o (tms i) (hs i) (vs i) (hs (i + 1)) (R i) (W i))) ∨ (wantV ops (tms i) o = some false ∧ vs i = qE ∧ hs (i + 1) = hs i ∧ (∀ b, ¬ W i b)))

theorem PRun.ext {ops : List Oper} {X X' : Nat → Prop} {rd : Option Nat} {m : Nat} {hs : Nat → Heap} {tms : Nat → Tm} {vs : Nat → V} {R W : Nat → Set'} {rows : List RowP} (r : PRun P ops X rd m hs tms vs R W rows) {o : Oper} (ho : ops[m]? = some o) {v : V} {h' : Heap} {Rc Wc : Set'}
  (hst : still o = true → (∀ b, ¬ Wc b) ∧ h'.n = (hs m).n) (vf : VF (hs m) h' Wc) (hc : (wantV ops (tms m) o = some true ∧ (¬ X' m → OpOk P rd o (tms m) (hs m) v h' Rc Wc)) ∨ (wantV ops (tms m) o = some false ∧ v = qE ∧ h' = hs m ∧ (∀ b, ¬ Wc b))) (hX : ∀ i, X i → X' i) :
  PRun P ops X' rd (m + 1) (upN hs m h') (upN tms m ((tms m).put o.dst v)) (upI vs m v) (upI R m Rc) (upI W m Wc) (rows ++ [⟨Rc, Wc, (hs m).n, h'.n⟩]) := by
 refine ⟨by simp [r.len], fun i q hi hq => ?_⟩
 by_cases h : i < m
 ·obtain ⟨r1, r2, r3, r4, r5⟩ := r.row i q h hq
  rw [jF hs h' (Nat.le_of_lt h), jF hs h' h, jF tms _ (Nat.le_of_lt h), jF tms _ h, upI_lt vs v h, upI_lt R Rc h, upI_lt W Wc h]
  refine ⟨?_, r2, r3, r4, r5.imp (fun ⟨a, b⟩ => ⟨a, fun hx => b fun hx' => hx (hX i hx')⟩) id⟩
  rw [List.getElem?_append_left (by rw [r.len]; exact h)]; exact r1
 ·obtain rfl : i = m := by omega
  rw [ho] at hq; cases hq
  rw [jF hs h' (Nat.le_refl _), upN_gt hs h' (Nat.lt_succ_self _), jF tms _ (Nat.le_refl _), upN_gt tms _ (Nat.lt_succ_self _), upI_ge vs v (Nat.le_refl _), upI_ge R Rc (Nat.le_refl _), upI_ge W Wc (Nat.le_refl _)]
  refine ⟨?_, hst, rfl, vf, hc⟩
  rw [List.getElem?_append_right (by rw [r.len]; exact Nat.le_refl _), r.len, Nat.sub_self]; rfl

theorem bef_take {ops : List Oper} (edge : ∀ i o, ops[i]? = some o → ∀ e ∈ o.after, Region.binds .any e = true → e.on < i) {i j m : Nat} (h : Bef ops i j) (hj : j < m) : Bef (ops.take m) i j := by
 intro D hcl hD
 refine (h (fun k => D k ∧ k < m) (fun k o hk hDk e he hb => ?_) ⟨hD, hj⟩).1
 have hk' : (ops.take m)[k]? = some o := by rw [List.getElem?_take_of_lt hDk.2]; exact hk
 have := edge k o hk e he hb
 exact ⟨hcl k o hk' hDk.1 e he hb, by have := hDk.2; omega⟩

def fst' (ops : List Oper) (m : Nat) : Array Oper := (ops.take m).toArray
theorem fst_size {ops : List Oper} {m : Nat} (h : m ≤ ops.length) : (fst' ops m).size = m := by simp [fst']; omega
theorem fst_get {ops : List Oper} {m i : Nat} (h : i < m) : (fst' ops m)[i]? = ops[i]? := by simp [fst', List.getElem?_take_of_lt h]
theorem fst_list (ops : List Oper) (m : Nat) : (fst' ops m).toList = ops.take m := by simp [fst']

theorem PRun.run {ops : List Oper} {X : Nat → Prop} {rd : Option Nat} {m : Nat} {hs : Nat → Heap} {tms : Nat → Tm} {vs : Nat → V} {R W : Nat → Set'} {rows : List RowP} (r : PRun P ops X rd m hs tms vs R W rows) (hm : m ≤ ops.length) (hst : staticOk ops = true)
  (hp : ∀ i j a b, (i, j) ∈ jJ ops → j < m → rows[i]? = some a → rows[j]? = some b → ApartP a b) : Run P ops X rd (fst' ops m) hs tms vs R W := by
 have hsz := fst_size hm
 have get : ∀ i o, (fst' ops m)[i]? = some o → i < m ∧ ops[i]? = some o := fun i o h => by
  have hi : i < (fst' ops m).size := (Array.getElem?_eq_some_iff.1 h).1
  rw [hsz] at hi
  rw [fst_get hi] at h
  exact ⟨hi, h⟩
 have edge : ∀ i o, ops[i]? = some o → ∀ e ∈ o.after, Region.binds .any e = true → e.on < i := fun i o ho e he hb => static_edge hst ho he hb
 refine ⟨fun i o ho => ?_, fun i o ho => edge i o (get i o ho).2, fun i j oi oj hij hoi hoj => ?_, fun i j hij hj => ?_⟩
 ·obtain ⟨hi, ho'⟩ := get i o ho
  obtain ⟨_, _, h1, h2, h3⟩ := r.row i o hi ho'
  exact ⟨h1, h2, h3⟩
 ·obtain ⟨hj, hoj'⟩ := get j oj hoj
  rw [fst_list]
  exact (static_tmps hst hij (get i oi hoi).2 hoj').imp (fun h => bef_take edge h hj) id
 ·rw [hsz] at hj
  rw [fst_list]
  have hi' : i < ops.length := by omega
  have hj' : j < ops.length := by omega
  have ei : ops[i]? = some ops[i] := List.getElem?_eq_getElem hi'
  have ej : ops[j]? = some ops[j] := List.getElem?_eq_getElem hj'
  obtain ⟨g1, g2, _⟩ := r.row i _ (by omega) ei
  obtain ⟨k1, k2, _⟩ := r.row j _ hj ej
  rcases mem_openPairs hij ei ej with h | ⟨h1, h2⟩ | h
  ·exact .inl (bef_take edge (masks_ok h) hj)
  ·right
   refine ⟨fun b hb _ => ?_, fun b hb => absurd hb.2 ((k2 h2).1 b)⟩
   rcases hb with hb | hb
   ·exact (g2 h1).1 b hb.2
   ·have := hb.1; have := hb.2; have := (g2 h1).2; omega
  ·exact .inr (hp i j _ _ h hj g1 k1)

theorem PRun.mono_n {ops : List Oper} {X : Nat → Prop} {rd : Option Nat} {m : Nat} {hs : Nat → Heap} {tms : Nat → Tm} {vs : Nat → V} {R W : Nat → Set'} {rows : List RowP} (r : PRun P ops X rd m hs tms vs R W rows) (hm : m ≤ ops.length) : ∀ k, k ≤ m → ∀ i, i ≤ k → (hs i).n ≤ (hs k).n := by
  intro k
  induction k with
  | zero => intro _ i hi; obtain rfl : i = 0 := by omega
            exact Nat.le_refl _
  | succ k ih =>
    intro hk i hi
    by_cases h : i = k + 1
    · rw [h]; exact Nat.le_refl _
    · have ek : ops[k]? = some ops[k] := List.getElem?_eq_getElem (by omega)
      exact Nat.le_trans (ih (by omega) i (by omega)) (r.row k _ (by omega) ek).2.2.2.1.n
theorem PRun.vf {ops : List Oper} {X : Nat → Prop} {rd : Option Nat} {m : Nat} {hs : Nat → Heap} {tms : Nat → Tm} {vs : Nat → V} {R W : Nat → Set'} {rows : List RowP} (r : PRun P ops X rd m hs tms vs R W rows) (hm : m ≤ ops.length) {Wt : Set'} (hW : ∀ k b, k < m → b < (hs 0).n → W k b → Wt b) : ∀ k, k ≤ m → VF (hs 0) (hs k) Wt := by
 intro k
 induction k with
 | zero => intro _; exact VF.refl _ _
 | succ k ih =>
  intro hk
  have h1 := ih (by omega)
  have ek : ops[k]? = some ops[k] := List.getElem?_eq_getElem (by omega)
  have h2 := (r.row k _ (by omega) ek).2.2.2.1
  refine ⟨Nat.le_trans h1.n h2.n, fun b hb hw => ?_⟩
  rw [h2.get b (Nat.lt_of_lt_of_le hb h1.n) fun hwk => hw (hW k b (by omega) hb hwk), h1.get b hb hw]

theorem RInv.re {opsA opsB : Array Oper} {hs hs' : Nat → Heap} {tms tms' : Nat → Tm} {W W' : Nat → Set'} {H0 : HF} {σ0 : Ren} {w0 : World} {arr0 : Array Value} {ds : List Deferred} {D : Nat → Prop} {σ : Ren} {H : HF} {a : Act} {w : World}
  (i : RInv P opsA hs tms W H0 σ0 w0 arr0 ds D σ H a w) (m : Nat) (hD : ∀ k, D k → k < m) (hA : m ≤ opsA.size) (hB : m ≤ opsB.size) (hops : ∀ k, k < m → opsA[k]? = opsB[k]?) (hh : ∀ k, k ≤ m → hs' k = hs k) (ht : ∀ k, k ≤ m → tms' k = tms k) (hw : ∀ k, k < m → W' k = W k) :
  RInv P opsB hs' tms' W' H0 σ0 w0 arr0 ds D σ H a w := by
 have eB : ∀ k b, k < m → (WtB hs' W' k b ↔ WtB hs W k b) := fun k b hk => by unfold WtB New; rw [hh k (Nat.le_of_lt hk), hh (k + 1) hk, hw k hk]
 have eT : ∀ k t, k < m → (WtT opsB k t ↔ WtT opsA k t) := fun k t hk => by unfold WtT; rw [hops k hk]
 have eN : ND opsB.size hs' D = ND opsA.size hs D := by
  funext b
  refine propext ⟨fun ⟨k, h1, h2, h3⟩ => ⟨k, by have := hD k h2; omega, h2, ?_⟩, fun ⟨k, h1, h2, h3⟩ => ⟨k, by have := hD k h2; omega, h2, ?_⟩⟩
  ·have hk := hD k h2
   rw [hh k (Nat.le_of_lt hk), hh (k + 1) hk] at h3; exact h3
  ·have hk := hD k h2
   rw [hh k (Nat.le_of_lt hk), hh (k + 1) hk]; exact h3
 have eW : WD opsB.size hs' W' D = WD opsA.size hs W D := by
  funext b
  refine propext ⟨fun ⟨h0, k, h1, h2, h3⟩ => ⟨by rw [hh 0 (Nat.zero_le _)] at h0; exact h0, k, by have := hD k h2; omega, h2, by rw [hw k (hD k h2)] at h3; exact h3⟩, fun ⟨h0, k, h1, h2, h3⟩ => ⟨by rw [hh 0 (Nat.zero_le _)]; exact h0, k, by have := hD k h2; omega, h2, by rw [hw k (hD k h2)]; exact h3⟩⟩
 refine ⟨fun k o hk hDk e he hb => ?_, by rw [eN, eW]; exact i.goes, fun b hn => i.h0 b fun k hk hDk hwk => hn k (by have := hD k hDk; omega) hDk ((eB k b (hD k hDk)).2 hwk), fun b k hk hDk hwk hn => ?_, by rw [ht 0 (Nat.zero_le _)]; exact i.size, fun t hn u hu => ?_, fun t k hk hDk hwk hn u hu => ?_, i.defers⟩
 ·refine i.closed k o ?_ hDk e he hb
  have := hops k (hD k hDk)
  simp only [Array.getElem?_toList] at hk ⊢
  rw [this]; exact hk
 ·rw [hh (k + 1) (hD k hDk)]
  exact i.h1 b k (by have := hD k hDk; omega) hDk ((eB k b (hD k hDk)).1 hwk) fun k' hk' hDk' hlt hwk' => hn k' (by have := hD k' hDk'; omega) hDk' hlt ((eB k' b (hD k' hDk')).2 hwk')
 ·rw [ht 0 (Nat.zero_le _)] at hu
  exact i.t0 t (fun k hk hDk hwk => hn k (by have := hD k hDk; omega) hDk ((eT k t (hD k hDk)).2 hwk)) u hu
 ·rw [ht (k + 1) (hD k hDk)] at hu
  exact i.t1 t k (by have := hD k hDk; omega) hDk ((eT k t (hD k hDk)).1 hwk) (fun k' hk' hDk' hlt hwk' => hn k' (by have := hD k' hDk'; omega) hDk' hlt ((eT k' t (hD k' hDk')).2 hwk')) u hu

theorem isCall_still {o : Oper} (h : isCall o.op = true) : still o = false := by
 obtain ⟨d, op, t, g, af⟩ := o
 cases op <;> first | (cases h; done) | skip
 rename_i c
 obtain ⟨c, args, ts⟩ := c
 cases c <;> first | (cases h; done) | rfl

set_option maxHeartbeats 1000000 in
theorem draw_tree {opsF : Array Oper} (hst : staticOk opsF.toList = true) {Rt Wt : Set'} {h0 : Heap} {K : Tm → Heap → Prop} {rd : Option Nat} {Q : Exit → Act → World → Prop} {H0 : HF} {σ0 : Ren} {w0 : World} {arr0 : Array Value} {ds : List Deferred} (p0 : PreU P h0 Rt Wt H0 σ0 w0)
  (hQ : ∀ tm' h' σ' H' a' w', K tm' h' → VF h0 h' Wt → a'.defers = ds → jP σ' tm' a'.tmps → Step P h0 h' Wt H0 H' σ0 σ' w0 w' → Q .normal a' w') :
  ∀ (l : List Oper) (m : Nat) (hs : Nat → Heap) (tms : Nat → Tm) (vs : Nat → V) (R W : Nat → Set') (X : Nat → Prop) (rows : List RowP), opsF.toList.drop m = l → m ≤ opsF.toList.length → hs 0 = h0 → PRun P opsF.toList X rd m hs tms vs R W rows → (∀ i, X i → i < m) →
   SRows ⟨P, true⟩ Rt Wt (jJ opsF.toList) h0.n opsF.toList l (tms m) (hs m) rows (fun tm' h' rows => yN rows (jJ opsF.toList) ∧ footP Rt Wt h0.n rows ∧ K tm' h') →
   ∀ (fuel : Nat) (listed : Array Bool) (a : Act) (w : World) (σ : Ren) (H : HF), listed.size = opsF.size → listed.toList.countP (fun x => !x) ≤ fuel → (∀ k, Dl listed k → k < m) → (∀ i, X i → Dl listed i) → RInv P opsF hs tms W H0 σ0 w0 arr0 ds (Dl listed) σ H a w → wpAnyIn (FW rd) 0 P .any opsF Q fuel listed a w := by
 have edgeF : ∀ i o, opsF[i]? = some o → ∀ e ∈ o.after, Region.binds .any e = true → e.on < i := fun i o ho e he hb => static_edge hst (by simpa using ho) he hb
 have hlen : opsF.toList.length = opsF.size := by simp
 have front : ∀ m, m ≤ opsF.toList.length → Front opsF (fst' opsF.toList m) := fun m hm => ⟨by rw [fst_size hm]; omega, fun i hi => by rw [fst_size hm] at hi; rw [fst_get hi]; simp⟩
 intro l
 induction l with
 | nil =>
  intro m hs tms vs R W X rows hdrop hm e0 r hXm hsr fuel listed a w σ H hsz hcount hlt hX i
  have hmF : m = opsF.size := by
   have := List.drop_eq_nil_iff.1 hdrop
   omega
  unfold SRows at hsr
  obtain ⟨hpairs, hfoot, q⟩ := hsr
  have run := r.run hm hst fun i j a b hmem hj ha hb => pairsP_mem hpairs i j hmem a b ha hb
  have hsA := fst_size hm
  have hRf : ∀ k b, k < (fst' opsF.toList m).size → b < (hs 0).n → R k b → Rt b := fun k b hk hb hr => by
   rw [hsA] at hk
   obtain ⟨g1, _⟩ := r.row k _ hk (List.getElem?_eq_getElem (by omega))
   exact (footP_mem hfoot _ (List.mem_of_getElem? g1)).1 b (by rw [← e0]; exact hb) hr
  have hWf : ∀ k b, k < m → b < (hs 0).n → W k b → Wt b := fun k b hk hb hr => by
   obtain ⟨g1, _⟩ := r.row k _ hk (List.getElem?_eq_getElem (by omega))
   exact (footP_mem hfoot _ (List.mem_of_getElem? g1)).2 b (by rw [← e0]; exact hb) hr
  have hvf := r.vf hm hWf m (Nat.le_refl _)
  subst e0
  refine draw_main (front m hm) run hRf (fun k b hk => hWf k b (by rw [hsA] at hk; exact hk)) (arr0 := arr0) (ds := ds) p0.to edgeF opsF.size (.inr ⟨rfl, by omega⟩) (fun h => by omega) (fun h => by omega) (fun _ σ' H' a' w' h1 h2 h3 => ?_) fuel listed a w hsz hcount (fun k hk => by have := hlt k hk; omega) (fun i h => .inr (hX i h)) ⟨σ, H, i.re m hlt (by omega) (by omega) (fun k hk => by rw [fst_get hk]; simp) (fun _ _ => rfl) (fun _ _ => rfl) fun _ _ => rfl⟩
  rw [hsA] at h2 h3
  exact hQ _ _ σ' H' a' w' q hvf h1 h2 h3
 | cons o l ih =>
  intro m hs tms vs R W X rows hdrop hm e0 r hXm hsr fuel listed a w σ H hsz hcount hlt hX i
  have hmlt : m < opsF.toList.length := by
   rcases Nat.lt_or_ge m opsF.toList.length with h | h
   ·exact h
   ·rw [List.drop_eq_nil_of_le h] at hdrop; cases hdrop
  have hdr := List.drop_eq_getElem_cons hmlt
  rw [hdrop] at hdr
  have ho : opsF.toList[m]? = some o := by rw [List.getElem?_eq_getElem hmlt, ← (List.cons.inj hdr).1]
  have hdrop' : opsF.toList.drop (m + 1) = l := (List.cons.inj hdr).2.symm
  have hoF : opsF[m]? = some o := by simpa using ho
  -- one operation that has one answer
  have one : ∀ (v : V) (h' : Heap) (Rc Wc : Set'), (still o = true → (∀ b, ¬ Wc b) ∧ h'.n = (hs m).n) → VF (hs m) h' Wc → ((wantV opsF.toList (tms m) o = some true ∧ OpOk P rd o (tms m) (hs m) v h' Rc Wc) ∨ (wantV opsF.toList (tms m) o = some false ∧ v = qE ∧ h' = hs m ∧ (∀ b, ¬ Wc b))) →
    SRows ⟨P, true⟩ Rt Wt (jJ opsF.toList) h0.n opsF.toList l ((tms m).put o.dst v) h' (rows ++ [⟨Rc, Wc, (hs m).n, h'.n⟩]) (fun tm' h' rows => yN rows (jJ opsF.toList) ∧ footP Rt Wt h0.n rows ∧ K tm' h') → wpAnyIn (FW rd) 0 P .any opsF Q fuel listed a w := by
   intro v h' Rc Wc h1 h2 h3 h4
   have r' := r.ext (X' := X) ho h1 h2 (h3.imp (fun ⟨a, b⟩ => ⟨a, fun _ => b⟩) id) (fun _ h => h)
   refine ih (m + 1) _ _ _ _ _ X _ hdrop' hmlt (by rw [jF hs h' (Nat.zero_le _)]; exact e0) r' (fun i hi => by have := hXm i hi; omega) (by rw [upN_gt hs h' (Nat.lt_succ_self _), upN_gt tms _ (Nat.lt_succ_self _)]; exact h4) fuel listed a w σ H hsz hcount (fun k hk => by have := hlt k hk; omega) hX ?_
   exact i.re m hlt (by omega) (by omega) (fun _ _ => rfl) (fun k hk => jF hs h' hk) (fun k hk => jF tms _ hk) fun k hk => upI_lt W Wc hk
  unfold SRows at hsr
  split at hsr
  ·rename_i hw
   have det : zV P (tms m) (hs m) o (fun v h' R W => SRows ⟨P, true⟩ Rt Wt (jJ opsF.toList) h0.n opsF.toList l ((tms m).put o.dst v) h' (rows ++ [⟨R, W, (hs m).n, h'.n⟩]) (fun tm' h' rows => yN rows (jJ opsF.toList) ∧ footP Rt Wt h0.n rows ∧ K tm' h')) → wpAnyIn (FW rd) 0 P .any opsF Q fuel listed a w := by
    intro hd
    obtain ⟨v, h1, Rc, Wc, hk, ok, hstill⟩ := hd.st
    exact one v h1 Rc Wc hstill (ok none).1 (.inl ⟨hw, ok rd⟩) hk
   split at hsr
   ·exact det hsr
   ·rename_i hcall
    rcases hsr with hsr | hsr
    ·exact det hsr
    obtain ⟨-, hfree, Rc, Wc, hpairs, hfoot, hop⟩ := hsr
    have hns := isCall_still hcall
    -- the run with the call's answer left out
    let X' : Nat → Prop := fun i => X i ∨ i = m
    have fake := r.ext (X' := X') (v := qE) (h' := hs m) (Rc := Rc) (Wc := Wc) ho (fun h => by rw [hns] at h; cases h) (VF.refl _ _) (.inl ⟨hw, fun h => absurd (.inr rfl) h⟩) (fun i h => .inl h)
    have hpp : ∀ (n' : Nat), ∀ i j a b, (i, j) ∈ jJ opsF.toList → j < m + 1 → (rows ++ [(⟨Rc, Wc, (hs m).n, n'⟩ : RowP)])[i]? = some a → (rows ++ [⟨Rc, Wc, (hs m).n, n'⟩])[j]? = some b → i < j → ApartP a b := by
     intro n' i j a b hmem hj ha hb hij
     have hmem' : (i, j) ∈ (jJ opsF.toList).filter fun p => Nat.ble p.2 rows.length := List.mem_filter.2 ⟨hmem, Nat.ble_eq_true_of_le (by show j ≤ rows.length; rw [r.len]; omega)⟩
     have hil : i < rows.length := by rw [r.len]; omega
     rw [List.getElem?_append_left hil] at ha
     have ha' : (rows ++ [(⟨Rc, Wc, (hs m).n, (hs m).n⟩ : RowP)])[i]? = some a := by rw [List.getElem?_append_left hil]; exact ha
     by_cases hjl : j < rows.length
     ·rw [List.getElem?_append_left hjl] at hb
      exact pairsP_mem hpairs i j hmem' a b ha' (by rw [List.getElem?_append_left hjl]; exact hb)
     ·have hje : j = rows.length := by rw [r.len] at hjl ⊢; omega
      rw [hje, List.getElem?_append_right (Nat.le_refl _), Nat.sub_self] at hb
      cases hb
      exact pairsP_mem hpairs i j hmem' a ⟨Rc, Wc, (hs m).n, (hs m).n⟩ ha' (by rw [hje, List.getElem?_append_right (Nat.le_refl _), Nat.sub_self]; rfl)
    have hlt2 : ∀ i j, (i, j) ∈ jJ opsF.toList → i < j := by
     intro i j hmem
     obtain ⟨j', hj', hm'⟩ := List.mem_flatMap.1 hmem
     obtain ⟨i', hi', he⟩ := List.mem_filterMap.1 hm'
     have := List.mem_range.1 hi'
     split at he
     ·cases he
     ·split at he
      ·split at he
       ·cases he
       ·cases he; exact this
      ·cases he
    have hm1 : m + 1 ≤ opsF.toList.length := hmlt
    have run := fake.run hm1 hst fun i j a b hmem hj ha hb => hpp _ i j a b hmem hj ha hb (hlt2 i j hmem)
    have hsA := fst_size hm1
    have ub : ∀ {α : Type} (f : Nat → α) (x : α), upN f m x 0 = f 0 := fun f x => jF f x (Nat.zero_le _)
    have rowAt : ∀ k, k < m + 1 → ∃ x ∈ rows ++ [(⟨Rc, Wc, (hs m).n, (hs m).n⟩ : RowP)], x.R = upI R m Rc k ∧ x.W = upI W m Wc k := fun k hk => by
     obtain ⟨g1, _⟩ := fake.row k _ hk (List.getElem?_eq_getElem (by omega))
     exact ⟨_, List.mem_of_getElem? g1, rfl, rfl⟩
    have hRf : ∀ k b, k < (fst' opsF.toList (m + 1)).size → b < (upN hs m (hs m) 0).n → upI R m Rc k b → Rt b := fun k b hk hb hr => by
     rw [hsA] at hk
     obtain ⟨x, hx, e1, e2⟩ := rowAt k hk
     exact (footP_mem hfoot x hx).1 b (by rw [ub, e0] at hb; exact hb) (by rw [e1]; exact hr)
    have hWf : ∀ k b, k < (fst' opsF.toList (m + 1)).size → b < (upN hs m (hs m) 0).n → upI W m Wc k b → Wt b := fun k b hk hb hr => by
     rw [hsA] at hk
     obtain ⟨x, hx, e1, e2⟩ := rowAt k hk
     exact (footP_mem hfoot x hx).2 b (by rw [ub, e0] at hb; exact hb) (by rw [e2]; exact hr)
    have p0' : ∀ h' : Heap, Pre P (upN hs m h' 0) (upN hs m h' (fst' opsF.toList (m + 1)).size) Rt Wt H0 σ0 w0 := fun h' => by rw [ub, e0]; exact p0.to
    have hRW : ∀ k b, k < (fst' opsF.toList (m + 1)).size → b < (upN hs m (hs m) 0).n → upI R m Rc k b ∨ upI W m Wc k b → Rt b ∨ Wt b := fun k b hk hb h => h.imp (hRf k b hk hb) (hWf k b hk hb)
    refine draw_main (front (m + 1) hm1) run hRf hWf (arr0 := arr0) (ds := ds) (p0' _) edgeF m (.inl hsA.symm) (fun hmF j hj hjF => ?_) (fun hmF => ?_) (fun h => by omega) fuel listed a w hsz hcount hlt (fun i h => h.elim (fun h => .inr (hX i h)) .inl) ⟨σ, H, i.re m hlt (by omega) (by omega) (fun k hk => by rw [fst_get (by omega)]; simp) (fun k hk => jF hs _ hk) (fun k hk => jF tms _ hk) fun k hk => upI_lt W Wc hk⟩
    ·have hjl : j < opsF.toList.length := by omega
     rcases mem_openPairs hj ho (List.getElem?_eq_getElem hjl) with h | ⟨h1, h2⟩ | h
     ·exact masks_ok h
     ·rw [hns] at h1; cases h1
     ·have := List.all_eq_true.1 hfree _ h
      rw [r.len] at this
      simp at this
    ·clear hcount hlt hX hsz i
     intro fuel listed a w σ H hsz hcount hlt hX i hj
     obtain ⟨g1, g2, g3⟩ := mem_ready.1 hj
     have hjs : m < listed.size := by omega
     have hjD : ¬ Dl listed m := fun h => by have := hlt m h; omega
     have hdl : ∀ e ∈ o.after, Region.binds .any e = true → Dl listed e.on := by
      intro e he hb
      have := g3 o hoF e he hb
      unfold Dl
      cases hq : listed[e.on]? with
      | none => simp [Array.getD_eq_getD_getElem?, hq] at this
      | some y => simp [Array.getD_eq_getD_getElem?, hq] at this; rw [this]
     have hoA : (fst' opsF.toList (m + 1))[m]? = some o := by rw [fst_get (Nat.lt_succ_self _)]; exact ho
     have hready' : ∀ o', (fst' opsF.toList (m + 1))[m]? = some o' → ∀ e ∈ o'.after, Region.binds .any e = true → Dl listed e.on := fun o' h => by rw [hoA] at h; cases h; exact hdl
     have htm : ∀ {t : Tmp} {u : V}, t ∈ looks opsF.toList o → (tms m).get t = some u → zU σ u (a.tmps.getD t undef) := fun {t u} ht hu =>
      i.temps run (j := m) (by omega) (fun _ => hjD) hready' (fun h => by omega) (fun o' ho' => by rw [hoA] at ho'; cases ho'; exact ht) (by rw [jF tms _ (Nat.le_refl _)]; exact hu)
     have hwant : Region.wanted o (yielded opsF a.tmps) = true := wantV_ok hw fun g want q t u hg hq hd hu => htm (by
      have hq' : opsF.toList[g]? = some q := by simpa using hq
      simp [looks, hg, hq', hd]) hu
     have hmon := fake.mono_n hm1 m (by omega)
     have pu : PreU P (hs m) Rc Wc H σ w := by
      refine ⟨fun b hb hRb => ?_, fun b hb => ?_, i.goes.inv⟩
      ·have := i.blocks run (p0' _) hRW (j := m) (by omega) (fun _ => hjD) hready' (fun h => by omega) (b := b) (by rw [jF hs _ (Nat.le_refl _)]; exact hb) ⟨fun _ => by rw [upI_ge R Rc (Nat.le_refl _), upI_ge W Wc (Nat.le_refl _)]; exact hRb, fun h => by omega⟩
       rw [jF hs _ (Nat.le_refl _)] at this
       exact this
      ·have hb0 : h0.n ≤ b := by
        have := hmon 0 (Nat.zero_le _)
        rw [ub, jF hs _ (Nat.le_refl _), e0] at this
        omega
       have hbk : ∀ k, k < m → b < (upN hs m (hs m) (k + 1)).n → False := fun k hk hbk => by
        have := hmon (k + 1) hk
        rw [jF hs _ (Nat.le_refl m)] at this
        omega
       have hno : ∀ k, k < (fst' opsF.toList (m + 1)).size → Dl listed k → ¬ WtB (upN hs m (hs m)) (upI W m Wc) k b := by
        intro k _ hDk hwk
        have hk := hlt k hDk
        rcases hwk with hwk | hwk
        ·refine hbk k hk (Nat.lt_of_lt_of_le hwk.1 ?_)
         exact fake.mono_n hm1 (k + 1) (by omega) k (Nat.le_succ _)
        ·exact hbk k hk hwk.2
       have hf := p0.fresh b hb0
       constructor
       ·cases hsb : σ b with
        | none => rfl
        | some l =>
         rcases i.goes.dom b l hsb with h' | ⟨k, hk, hDk, hkn⟩
         ·rw [hf.1] at h'; cases h'
         ·exact absurd (.inr hkn) (hno k hk hDk)
       ·rw [i.h0 b hno]; exact hf.2
     unfold wpOpIn
     simp only [hoF]
     rw [if_pos hwant]
     refine (hop.okD rd) H σ w a _ Q pu (fun x hx v hv => ?_) fun x v h' σ' H' w' hk vf hx hst' => ?_
     ·obtain ⟨tmps', ds'⟩ := a
      exact ev_tmps ds' (fun t u e hu => htm (List.mem_append_left _ (List.mem_filterMap.2 ⟨x, by simpa using hx, by rw [e]⟩)) hu) hv
     ·have real := r.ext (X' := X') (v := v) (h' := h') (Rc := Rc) (Wc := Wc) ho (fun h => by rw [hns] at h; cases h) vf (.inl ⟨hw, fun h => absurd (.inr rfl) h⟩) (fun i h => .inl h)
      have run' := real.run hm1 hst fun i j a b hmem hj ha hb => hpp _ i j a b hmem hj ha hb (hlt2 i j hmem)
      have i' : RInv P (fst' opsF.toList (m + 1)) (upN hs m h') (upN tms m ((tms m).put o.dst v)) (upI W m Wc) H0 σ0 w0 arr0 ds (Dl listed) σ H a w := i.re m hlt (by omega) (by omega) (fun _ _ => rfl) (fun k hk => by rw [jF hs _ hk, jF hs _ hk]) (fun k hk => by rw [jF tms _ hk, jF tms _ hk]) fun k hk => rfl
      have i'' := i'.next run' (p0' h') hoA hjD hdl (σ' := σ') (H' := H') (w' := w') (x := x) (by rw [jF hs h' (Nat.le_refl m), upN_gt hs h' (Nat.lt_succ_self m), upI_ge W Wc (Nat.le_refl m)]; exact hst') (by rw [upI_ge vs v (Nat.le_refl m)]; exact hx) (Dl_set hjs)
      have hlt' : ∀ k, Dl (listed.setIfInBounds m true) k → k < m + 1 := fun k hk => by
       rcases (Dl_set hjs k).1 hk with h | h
       ·have := hlt k h; omega
       ·omega
      have hcount' : (listed.setIfInBounds m true).toList.countP (fun x => !x) ≤ fuel := by
       have hlj : listed[m] = false := by simpa [Array.getD_eq_getD_getElem?, Array.getElem?_eq_getElem hjs] using g2
       have hjl : m < listed.toList.length := by simpa using hjs
       rw [Array.toList_setIfInBounds, List.countP_set hjl]
       have hpos : 0 < listed.toList.countP (fun x => !x) := List.countP_pos_iff.2 ⟨listed[m], by simp, by simp [hlj]⟩
       simp only [Array.getElem_toList, hlj, Bool.not_false, if_true, Bool.not_true, Bool.false_eq_true, if_false]
       omega
      refine ih (m + 1) _ _ _ _ _ X' _ hdrop' hm1 (by rw [ub]; exact e0) real (fun i hi => hi.elim (fun h => by have := hXm i h; omega) (fun h => by omega)) (by rw [upN_gt hs h' (Nat.lt_succ_self _), upN_gt tms _ (Nat.lt_succ_self _)]; exact hk) fuel _ _ _ σ' H' (by simpa using hsz) hcount' hlt' (fun k hk => ?_) (i''.re (m + 1) hlt' (by omega) (by omega) (fun k hk => by rw [fst_get hk]; simp) (fun _ _ => rfl) (fun _ _ => rfl) fun _ _ => rfl)
      rcases hk with h | h
      ·rcases hX k (.inl h) with h | h
       ·exact (Dl_set hjs k).2 (.inr h)
       ·exact (Dl_set hjs k).2 (.inl h)
      ·exact (Dl_set hjs k).2 (.inr h)
  ·rename_i hw
   exact one qE (hs m) (fun _ => False) (fun _ => False) (fun _ => ⟨fun _ h => h, rfl⟩) (VF.refl _ _) (.inr ⟨hw, rfl, rfl, fun _ h => h⟩) hsr
  ·exact hsr.elim

theorem SDraw.okD (hm : P.follows .mixedOrders = true) {R W : Set'} (opsA : Array Oper) {tm : Tm} {h : Heap} {K : Tm → Heap → Prop} (hs : SDraw ⟨P, true⟩ R W opsA.toList tm h K) (rd : Option Nat) (rid : Nat) (H : HF) (σ : Ren) (w : World) (a : Act) (Q : Exit → Act → World → Prop) (p : PreU P h R W H σ w) (ht : jP σ tm a.tmps)
  (hQ : ∀ tm' h' σ' H' a' w', K tm' h' → VF h h' W → a'.defers = a.defers → jP σ' tm' a'.tmps → Step P h h' W H H' σ σ' w w' → Q .normal a' w') : (Code.region rid opsA true).wpIn (FW rd) 0 P Q a w := by
 obtain ⟨hst, hs⟩ := hs
 refine wpIn_region_any hm ?_
 have hD : ∀ k, ¬ Dl (Array.replicate opsA.size false) k := by
  intro k h; unfold Dl at h; simp [Array.getElem?_replicate] at h
 exact draw_tree hst p hQ (arr0 := a.tmps) (ds := a.defers) opsA.toList 0 (fun _ => h) (fun _ => tm) (fun _ => qE) (fun _ _ => False) (fun _ _ => False) (fun _ => False) [] rfl (Nat.zero_le _) rfl ⟨rfl, fun i o hi => by omega⟩ (fun _ h => h.elim) hs opsA.size _ a _ σ H (by simp) (by simp [List.countP_replicate]) (fun k h => absurd h (hD k)) (fun _ h => h.elim) (RInv.start p.inv ht rfl hD)
end Go.Vm
set_option linter.unusedVariables false
namespace Go.Vm
variable {P : Program} {M : MP}

theorem enter_outer {R W : Set'} {f : Fr} {ps : Array Tmp} {assign body : Code} {h : Heap} {H : HF} {σ : Ren} {w : World} {a : Act} (fn : FuncId)
  (p : Pre P h ((h.push (.deferred true)).push (.loop ⟨.ready, none, f.tm, ps.toList, assign, body, h.n⟩)) R W H σ w) (hf : FRel σ f a) :
  ∃ σ' H' w' mark, (Instr.enterLoop fn a.tmps ps assign body none).run P w = .ok (σ'.b (h.n + 1), mark) w' ∧ FRel σ' ⟨f.tm, h.n :: f.mks⟩ { a with defers := mark ++ a.defers } ∧ σ'.is (h.n + 1) ∧
   Step P h ((h.push (.deferred true)).push (.loop ⟨.ready, none, f.tm, ps.toList, assign, body, h.n⟩)) W H H' σ σ' w w' := by
 have p1 := p.fst (h₁ := h.push (.deferred true)) (by simp)
 have s1 := step_push p1 (.deferred (some [])) 0 rfl (by simp [BRel])
 have p2 := p.snd (vf_push _ _ _) s1
 have hD : (σ.upd h.n ⟨w.heap.size, 0, 0⟩).is h.n := on_new _ _ _
 have hle1 := s1.goes.le
 have hfr2 := p2.fresh (h.push (.deferred true)).n ⟨Nat.le_refl _, by simp⟩
 have hle2 := Ren.le_upd hfr2.1 ⟨(w.alloc (.deferred (some []))).heap.size, 0, 0⟩
 have s2 := step_push p2 (.loop { state := .ready, pending := none, fn, tmps := a.tmps, params := ps, assign, body, defers := w.heap.size }) 0 rfl ⟨_, rfl, rfl, rfl, (hf.tm.le hle1).le hle2, by simp, rfl, rfl, Ren.is_le hle2 hD, by
  rw [Ren.b_le hle2 hD, Ren.zY (Ren.upd_same _ _ _)]⟩
 have hs := Step.trans p (vf_push _ _ _) (vf_push _ _ _) s1 s2
 refine ⟨_, _, _, [{ target := .collected w.heap.size, args := #[] }], ?_, ⟨(hf.tm.le hs.goes.le), ?_, fun b hb => ?_⟩, on_new _ _ _, hs⟩
 ·have := run_enterLoop_outer (P := P) (w := w) fn a.tmps ps assign body
  rw [this]
  have : Ren.b ((σ.upd h.n ⟨w.heap.size, 0, 0⟩).upd (h.push (.deferred true)).n ⟨(w.alloc (.deferred (some []))).heap.size, 0, 0⟩) (h.n + 1) = w.heap.size + 1 :=
   (Ren.zY (x := h.n + 1) (Ren.upd_same _ (h.push (.deferred true)).n _)).trans (by simp)
  rw [this]
 ·simp only [List.map_cons, List.singleton_append]
  congr 1
  ·simp only [markOf]
   rw [Ren.b_le hle2 hD, Ren.zY (Ren.upd_same _ _ _)]
  ·rw [marks_le hs.goes.le hf.on]; exact hf.mks
 ·rcases List.mem_cons.1 hb with rfl | hb
  ·exact Ren.is_le hle2 hD
  ·exact Ren.is_le hs.goes.le (hf.on b hb)
theorem enter_inner {R W : Set'} {f : Fr} {ps : Array Tmp} {assign body : Code} {h : Heap} {l : Nat} {lv : Loopv} (hg : h.get l = some (.loop lv)) (hR : R l) {H : HF} {σ : Ren} {w : World} {a : Act} (fn : FuncId)
  (p : Pre P h (h.push (.loop ⟨.ready, none, f.tm, ps.toList, assign, body, lv.defers⟩)) R W H σ w) (hf : FRel σ f a) :
  ∃ σ' H' w', (Instr.enterLoop fn a.tmps ps assign body (some (σ.b l))).run P w = .ok (σ'.b h.n, []) w' ∧ FRel σ' f a ∧ σ'.is h.n ∧ Step P h (h.push (.loop ⟨.ready, none, f.tm, ps.toList, assign, body, lv.defers⟩)) W H H' σ σ' w w' := by
 have hln := Heap.zD hg
 have hHl : H l = some (.loop lv) := by rw [p.agree l hln (.inl hR), hg]
 obtain ⟨loc, hloc, lp, hw, hrel⟩ := p.inv.rel l _ hHl rfl
 have hfr := p.fresh h.n ⟨Nat.le_refl _, by simp⟩
 have hle := Ren.le_upd hfr.1 ⟨w.heap.size, 0, 0⟩
 have hs := step_push p (.loop { state := .ready, pending := none, fn, tmps := a.tmps, params := ps, assign, body, defers := lp.defers }) 0 rfl ⟨_, rfl, rfl, rfl, hf.tm.le hle, by simp, rfl, rfl, Ren.is_le hle hrel.defers.1, by
  rw [Ren.b_le hle hrel.defers.1]; exact hrel.defers.2⟩
 refine ⟨_, _, _, ?_, hf.le hs.goes.le, on_new _ _ _, hs⟩
 rw [Ren.zY (Ren.upd_same _ _ _)]
 have hw' : w.heap[σ.b l]? = some (.loop lp) := by rw [Ren.zY hloc]; exact hw
 simp [Instr.enterLoop, run_getLoop hw']
theorem end_loop {R W : Set'} {h : Heap} {L : Nat} {lv : Loopv} (hg : h.get L = some (.loop lv)) (hb : lv.state ≠ .busy) (hW : W L) {H : HF} {σ : Ren} {w : World}
  (p : Pre P h (h.set L (.loop { lv with state := .exhausted })) R W H σ w) :
  ∃ H' w', (Instr.endLoop (σ.b L)).run P w = .ok lv.pending w' ∧ Step P h (h.set L (.loop { lv with state := .exhausted })) W H H' σ σ w w' := by
 have hln := Heap.zD hg
 have hHl : H L = some (.loop lv) := by rw [p.agree L hln (.inr hW), hg]
 obtain ⟨loc, hloc, lp, hw, hrel⟩ := p.inv.rel L _ hHl rfl
 have hlt : loc.blk < w.heap.size := (Array.getElem?_eq_some_iff.1 hw).1
 refine ⟨_, _, ?_, step_set (w' := w.putObj loc.blk (.loop { lp with state := .exhausted })) p hg rfl hW hloc (putObj_size _ _ _) (fun k hk => World.putObj_heap_other hk) rfl rfl rfl ?_⟩
 ·rw [Ren.zY hloc, run_endLoop hw (by rw [hrel.state]; exact hb), hrel.pending]
 ·rw [World.putObj_heap_same hlt]
  exact ⟨_, rfl, { hrel with state := rfl }⟩

def SEnd (W : Set') (L : Nat) (f : Fr) (h : Heap) (Q : Ex → Fr → Heap → Prop) : Prop := match h.get L with
 | some (.loop lv) => lv.state ≠ .busy ∧ W L ∧ (match lv.pending with
  | none => Q .norm f (h.set L (.loop { lv with state := .exhausted }))
  | some .ret => Q .ret f (h.set L (.loop { lv with state := .exhausted }))
  | some (.exit id) => Q (.exit id) f (h.set L (.loop { lv with state := .exhausted }))
  | _ => False)
 | _ => False
def xZ (M : MP) (R W : Set') (rd : Option Nat) (g : Operand) (ps : Array Tmp) (assign body : Code) (f : Fr) (h : Heap) (Q : Ex → Fr → Heap → Prop) : Prop := match evV f.tm g with
 | some (.func k xs ys) => callable M.P k = true ∧ (match rd with
  | none => SF M k ((xs ++ [.yield (h.n + 1)]) ++ ys) ((h.push (.deferred true)).push (.loop ⟨.ready, none, f.tm, ps.toList, assign, body, h.n⟩)) R W fun _ h2 => SEnd W (h.n + 1) ⟨f.tm, h.n :: f.mks⟩ h2 Q
  | some l => match h.get l with
   | some (.loop lv) => R l ∧ SF M k ((xs ++ [.yield h.n]) ++ ys) (h.push (.loop ⟨.ready, none, f.tm, ps.toList, assign, body, lv.defers⟩)) R W fun _ h2 => SEnd W h.n f h2 Q
   | _ => False)
 | _ => False

theorem range_code {R W : Set'} {rd : Option Nat} {g : Operand} {ps : Array Tmp} {assign body : Code} {f f1 : Fr} {h h1 h2 : Heap} {L : Nat} {k : FuncId} {xs ys : List V} {v2 : V} {Q : Ex → Fr → Heap → Prop} (hg : evV f.tm g = some (.func k xs ys)) (hc : callable P k = true)
  (ht : f1.tm = f.tm) (vf1 : VF h h1 W) (ok1 : ∀ H σ w (a : Act) (fn : FuncId), (∀ l, rd = some l → σ.is l) → Pre P h h1 R W H σ w → FRel σ f a →
   ∃ σ' H' w' mark, (Instr.enterLoop fn a.tmps ps assign body (rd.map σ.b)).run P w = .ok (σ'.b L, mark) w' ∧ FRel σ' f1 { a with defers := mark ++ a.defers } ∧ σ'.is L ∧ Step P h h1 W H H' σ σ' w w')
  (ok2 : FnOk P k ((xs ++ [.yield L]) ++ ys) h1 v2 h2 R W) (hend : SEnd W L f1 h2 Q) : ∃ e f' h', Q e f' h' ∧ CodeOk P rd (.rangeFunc g ps assign body) f h e f' h' R W := by
 have main : ∀ (lv : Loopv) (e : Ex), h2.get L = some (.loop lv) → lv.state ≠ .busy → W L → lv.pending = e.jump → CodeOk P rd (.rangeFunc g ps assign body) f h e f1 (h2.set L (.loop { lv with state := .exhausted })) R W := by
  intro lv e hgL hb hW hj
  have vf3 : VF h2 (h2.set L (.loop { lv with state := .exhausted })) W := vf_set (Heap.zD hgL) _ hW
  have vf12 := vf1.trans ok2.1
  refine ⟨vf12.trans vf3, fun H σ w a Q hl p hf hQ => ?_⟩
  refine wpIn_rangeFunc fun fn _ => ?_
  obtain ⟨σ1, H1, w1, mark, hrun, hf1, hL, hs1⟩ := ok1 H σ w a fn hl (p.fst (Nat.le_trans ok2.1.n vf3.n)) hf
  have hg' : evV f1.tm g = some (.func k xs ys) := by rw [ht]; exact hg
  have hgv : zU σ1 (.func k xs ys) (({ a with defers := mark ++ a.defers } : Act).eval g) := ev_tmps _ (fun t u _ hu => hf1.tm.2 t u hu) hg'
  have hgv' : a.eval g = (V.func k xs ys).re σ1 := by rw [← hgv.2]; cases g <;> rfl
  refine ⟨σ1.b L, mark, w1, { target := .fn (.func k) (V.reL σ1 ys).toArray, args := (V.reL σ1 xs).toArray ++ #[.func (.yield (σ1.b L)) #[] #[]] }, w1, k, (V.reL σ1 ((xs ++ [.yield L]) ++ ys)).toArray, w1, hrun, ?_, fun _ _ => trivial, ?_, fun h => (by cases h), ?_⟩
  ·simp only [resolve, hgv', V.re, Deferred.ofValue, Sem.run_pure]
   simp [Act.eval]
  ·simp only [invoke]
   rw [run_callable hc]
   simp [reL_append, V.reL, V.re]
  ·have p2 := p.snd vf1 hs1
   refine CallsIn.mono (ok2.2 H1 σ1 w1 (p2.fst vf3.n) (onL_append (onL_append hgv.1.1 ⟨hL, trivial⟩) hgv.1.2)) ?_
   rintro e2 w2 ⟨x, σ2, H2, rfl, hx, hs2⟩
   have p3 := p2.snd ok2.1 hs2
   obtain ⟨H3, w3, hend, hs3⟩ := end_loop hgL hb hW p3
   have hLb : σ2.b L = σ1.b L := Ren.b_le hs2.goes.le hL
   rw [hLb] at hend
   refine ⟨lv.pending, w3, hend, ?_⟩
   have hfin := hQ σ2 H3 _ w3 (hf1.le hs2.goes.le) (Step.trans p vf12 vf3 (Step.trans (p.fst vf3.n) vf1 ok2.1 hs1 hs2) hs3)
   rw [hj]
   cases e with
   | norm => exact hfin
   | ret => exact wpIn_ret hfin
   | exit id => exact wpIn_exit hfin
 unfold SEnd at hend
 split at hend
 ·rename_i lv hgL
  obtain ⟨hb, hW, hq⟩ := hend
  split at hq
  ·rename_i hp; exact ⟨.norm, f1, _, hq, main lv .norm hgL hb hW hp⟩
  ·rename_i hp; exact ⟨.ret, f1, _, hq, main lv .ret hgL hb hW hp⟩
  ·rename_i id hp; exact ⟨.exit id, f1, _, hq, main lv (.exit id) hgL hb hW hp⟩
  ·exact hq.elim
 ·exact hend.elim
theorem xZ.ok {R W : Set'} {rd : Option Nat} {g : Operand} {ps : Array Tmp} {assign body : Code} {f : Fr} {h : Heap} {Q : Ex → Fr → Heap → Prop} (hs : xZ (P : MP) R W rd g ps assign body f h Q) :
  ∃ e f' h', Q e f' h' ∧ CodeOk P rd (.rangeFunc g ps assign body) f h e f' h' R W := by
 unfold xZ at hs
 split at hs
 ·rename_i k xs ys hg
  obtain ⟨hc, hs⟩ := hs
  split at hs
  ·obtain ⟨v2, h2, hend, ok2⟩ := hs
   refine range_code (f1 := ⟨f.tm, h.n :: f.mks⟩) hg hc rfl ((vf_push _ _ _).trans (vf_push _ _ _)) (fun H σ w a fn hl p hf => ?_) ok2 hend
   exact enter_outer fn p hf
  ·rename_i l
   split at hs
   ·rename_i lv hgl
    obtain ⟨hR, v2, h2, hend, ok2⟩ := hs
    refine range_code (f1 := f) hg hc rfl (vf_push _ _ _) (fun H σ w a fn hl p hf => ?_) ok2 hend
    obtain ⟨σ', H', w', h1, h2, h3, h4⟩ := enter_inner hgl hR fn p hf
    exact ⟨σ', H', w', [], h1, by cases a; exact h2, h3, h4⟩
   ·exact hs.elim
 ·exact hs.elim

def CodeD (P : Program) (rd : Option Nat) (c : Code) (f : Fr) (h : Heap) (R W : Set') (Q : Ex → Fr → Heap → Prop) : Prop :=
 ∀ H σ w a (Qr : Exit → Act → World → Prop), (∀ l, rd = some l → σ.is l) → PreU P h R W H σ w → FRel σ f a →
  (∀ e f' h' σ' H' a' w', Q e f' h' → VF h h' W → FRel σ' f' a' → Step P h h' W H H' σ σ' w w' → Qr e.to a' w') → c.wpIn (FW (rd.map σ.b)) 0 P Qr a w
theorem range_codeD {R W : Set'} {rd : Option Nat} {g : Operand} {ps : Array Tmp} {assign body : Code} {f f1 : Fr} {h h1 : Heap} {L : Nat} {k : FuncId} {xs ys : List V} {Q : Ex → Fr → Heap → Prop} (hg : evV f.tm g = some (.func k xs ys)) (hc : callable P k = true)
  (ht : f1.tm = f.tm) (vf1 : VF h h1 W) (ok1 : ∀ H σ w (a : Act) (fn : FuncId), (∀ l, rd = some l → σ.is l) → Pre P h h1 R W H σ w → FRel σ f a →
   ∃ σ' H' w' mark, (Instr.enterLoop fn a.tmps ps assign body (rd.map σ.b)).run P w = .ok (σ'.b L, mark) w' ∧ FRel σ' f1 { a with defers := mark ++ a.defers } ∧ σ'.is L ∧ Step P h h1 W H H' σ σ' w w')
  (ok2 : FnD P k ((xs ++ [.yield L]) ++ ys) h1 R W fun _ h2 => SEnd W L f1 h2 Q) : CodeD P rd (.rangeFunc g ps assign body) f h R W Q := by
 intro H σ w a Qr hl p hf hQ
 refine wpIn_rangeFunc fun fn _ => ?_
 obtain ⟨σ1, H1, w1, mark, hrun, hf1, hL, hs1⟩ := ok1 H σ w a fn hl p.to hf
 have hg' : evV f1.tm g = some (.func k xs ys) := by rw [ht]; exact hg
 have hgv : zU σ1 (.func k xs ys) (({ a with defers := mark ++ a.defers } : Act).eval g) := ev_tmps _ (fun t u _ hu => hf1.tm.2 t u hu) hg'
 have hgv' : a.eval g = (V.func k xs ys).re σ1 := by rw [← hgv.2]; cases g <;> rfl
 refine ⟨σ1.b L, mark, w1, { target := .fn (.func k) (V.reL σ1 ys).toArray, args := (V.reL σ1 xs).toArray ++ #[.func (.yield (σ1.b L)) #[] #[]] }, w1, k, (V.reL σ1 ((xs ++ [.yield L]) ++ ys)).toArray, w1, hrun, ?_, fun _ _ => trivial, ?_, fun h => (by cases h), ?_⟩
 ·simp only [resolve, hgv', V.re, Deferred.ofValue, Sem.run_pure]
  simp [Act.eval]
 ·simp only [invoke]
  rw [run_callable hc]
  simp [reL_append, V.reL, V.re]
 ·have p2 := p.snd vf1 hs1
  refine CallsIn.mono (ok2 H1 σ1 w1 p2 (onL_append (onL_append hgv.1.1 ⟨hL, trivial⟩) hgv.1.2)) ?_
  rintro e2 w2 ⟨x, σ2, H2, v2, h2, hend, vf2, rfl, hx, hs2⟩
  have p3 := p2.snd vf2 hs2
  unfold SEnd at hend
  split at hend
  ·rename_i lv hgL
   obtain ⟨hb, hW, hq⟩ := hend
   have vf3 : VF h2 (h2.set L (.loop { lv with state := .exhausted })) W := vf_set (Heap.zD hgL) _ hW
   obtain ⟨H3, w3, hrunE, hs3⟩ := end_loop hgL hb hW p3.to
   have hLb : σ2.b L = σ1.b L := Ren.b_le hs2.goes.le hL
   rw [hLb] at hrunE
   refine ⟨lv.pending, w3, hrunE, ?_⟩
   have hst := Step.trans p.to (vf1.trans vf2) vf3 (Step.trans p.to vf1 vf2 hs1 hs2) hs3
   have hvf := (vf1.trans vf2).trans vf3
   split at hq
   ·rename_i hp
    rw [hp]
    exact hQ .norm f1 _ σ2 H3 _ w3 hq hvf (hf1.le hs2.goes.le) hst
   ·rename_i hp
    rw [hp]
    exact wpIn_ret (hQ .ret f1 _ σ2 H3 _ w3 hq hvf (hf1.le hs2.goes.le) hst)
   ·rename_i id hp
    rw [hp]
    exact wpIn_exit (hQ (.exit id) f1 _ σ2 H3 _ w3 hq hvf (hf1.le hs2.goes.le) hst)
   ·exact hq.elim
  ·exact hend.elim
theorem xZ.okD {R W : Set'} {rd : Option Nat} {g : Operand} {ps : Array Tmp} {assign body : Code} {f : Fr} {h : Heap} {Q : Ex → Fr → Heap → Prop} (hs : xZ ⟨P, true⟩ R W rd g ps assign body f h Q) : CodeD P rd (.rangeFunc g ps assign body) f h R W Q := by
 unfold xZ at hs
 split at hs
 ·rename_i k xs ys hg
  obtain ⟨hc, hs⟩ := hs
  split at hs
  ·refine range_codeD (f1 := ⟨f.tm, h.n :: f.mks⟩) hg hc rfl ((vf_push _ _ _).trans (vf_push _ _ _)) (fun H σ w a fn hl p hf => ?_) hs
   exact enter_outer fn p hf
  ·rename_i l
   split at hs
   ·rename_i lv hgl
    obtain ⟨hR, hs⟩ := hs
    refine range_codeD (f1 := f) hg hc rfl (vf_push _ _ _) (fun H σ w a fn hl p hf => ?_) hs
    obtain ⟨σ', H', w', h1, h2, h3, h4⟩ := enter_inner hgl hR fn p hf
    exact ⟨σ', H', w', [], h1, by cases a; exact h2, h3, h4⟩
   ·exact hs.elim
 ·exact hs.elim

def LoopOk (P : Program) (rd : Option Nat) (c : Code) (f : Fr) (h : Heap) (e : Ex) (f' : Fr) (h' : Heap) (R W : Set') : Prop :=
 VF h h' W ∧ ∀ H σ w a Q, (∀ l, rd = some l → σ.is l) → Pre P h h' R W H σ w → FRel σ f a →
  (∀ σ' H' a' w', FRel σ' f' a' → Step P h h' W H H' σ σ' w w' → Q e.to a' w') → LoopIn (FW (rd.map σ.b)) 0 P c Q a w
def LoopD (P : Program) (rd : Option Nat) (c : Code) (f : Fr) (h : Heap) (R W : Set') (Q : Ex → Fr → Heap → Prop) : Prop :=
 ∀ H σ w a (Qr : Exit → Act → World → Prop), (∀ l, rd = some l → σ.is l) → PreU P h R W H σ w → FRel σ f a →
  (∀ e f' h' σ' H' a' w', Q e f' h' → VF h h' W → FRel σ' f' a' → Step P h h' W H H' σ σ' w w' → Qr e.to a' w') → LoopIn (FW (rd.map σ.b)) 0 P c Qr a w
def SL (M : MP) (R W : Set') (rd : Option Nat) (c : Code) (f : Fr) (h : Heap) (Q : Ex → Fr → Heap → Prop) : Prop := match M.dem with
 | false => ∃ e f' h', Q e f' h' ∧ LoopOk M.P rd c f h e f' h' R W
 | true => LoopD M.P rd c f h R W Q
theorem SL.mono {R W : Set'} {rd : Option Nat} {c : Code} {f : Fr} {h : Heap} {Q Q' : Ex → Fr → Heap → Prop} (hs : SL M R W rd c f h Q) (hq : ∀ e f h, Q e f h → Q' e f h) : SL M R W rd c f h Q' := by
 unfold SL at *
 split at hs
 ·obtain ⟨e, f', h', q, k⟩ := hs; exact ⟨e, f', h', hq _ _ _ q, k⟩
 ·exact fun H σ w a Qr hl p hf hQ => hs H σ w a Qr hl p hf fun e f' h' σ' H' a' w' q => hQ e f' h' σ' H' a' w' (hq _ _ _ q)

def SC (M : MP) (R W : Set') (rd : Option Nat) : Code → Fr → Heap → (Ex → Fr → Heap → Prop) → Prop
 | .skip, f, h, Q => Q .norm f h
 | .label _, f, h, Q => Q .norm f h
 | .region _ ops draw, f, h, Q => match draw with
  | false => SOps M R W ops.toList ops.toList f.tm h fun tm h' => Q .norm ⟨tm, f.mks⟩ h'
  | true => SDraw M R W ops.toList f.tm h fun tm h' => Q .norm ⟨tm, f.mks⟩ h'
 | .seq a b, f, h, Q => SC M R W rd a f h fun e f' h' => match e with
  | .norm => SC M R W rd b f' h' Q
  | .exit id => Q (.exit id) f' h'
  | .ret => Q .ret f' h'
 | .cond c a b, f, h, Q => match evV f.tm c with
  | some (.bool t) => match t with
   | true => SC M R W rd a f h Q
   | false => SC M R W rd b f h Q
  | _ => False
 | .block id c, f, h, Q => SC M R W rd c f h fun e f' h' => match e with
  | .norm => Q .norm f' h'
  | .exit id' => match Nat.beq id' id with
   | true => Q .norm f' h'
   | false => Q (.exit id') f' h'
  | .ret => Q .ret f' h'
 | .loop c, f, h, Q => SL M R W rd c f h Q
 | .exit id, f, h, Q => Q (.exit id) f h
 | .ret, f, h, Q => Q .ret f h
 | .scope c, f, h, Q => SC M R W rd c f h Q
 | .rangeFunc g ps assign body, f, h, Q => xZ M R W rd g ps assign body f h Q
 | _, _, _, _ => False

theorem FW_le {rd : Option Nat} {σ σ' : Ren} (hl : ∀ l, rd = some l → σ.is l) (hle : σ.le σ') : FW (rd.map σ'.b) = FW (rd.map σ.b) := by
 cases rd with
 | none => rfl
 | some l => simp only [Option.map_some]; rw [Ren.b_le hle (hl l rfl)]

theorem SC.ok (hm : P.follows .mixedOrders = true) {R W : Set'} {rd : Option Nat} : ∀ (c : Code) (f : Fr) (h : Heap) (Q : Ex → Fr → Heap → Prop), SC (P : MP) R W rd c f h Q → ∃ e f' h', Q e f' h' ∧ CodeOk P rd c f h e f' h' R W := by
 intro c
 induction c with
 | skip => exact fun f h Q hs => ⟨.norm, f, h, hs, VF.refl _ _, fun H σ w a Q hl p hf hQ => wpIn_skip (hQ σ H a w hf (Step.refl p.inv fun b hb hw => p.agree b hb (.inr hw)))⟩
 | label l => exact fun f h Q hs => ⟨.norm, f, h, hs, VF.refl _ _, fun H σ w a Q hl p hf hQ => wpIn_label (hQ σ H a w hf (Step.refl p.inv fun b hb hw => p.agree b hb (.inr hw)))⟩
 | exit id => exact fun f h Q hs => ⟨.exit id, f, h, hs, VF.refl _ _, fun H σ w a Q hl p hf hQ => wpIn_exit (hQ σ H a w hf (Step.refl p.inv fun b hb hw => p.agree b hb (.inr hw)))⟩
 | ret => exact fun f h Q hs => ⟨.ret, f, h, hs, VF.refl _ _, fun H σ w a Q hl p hf hQ => wpIn_ret (hQ σ H a w hf (Step.refl p.inv fun b hb hw => p.agree b hb (.inr hw)))⟩
 | goto l => exact fun f h Q hs => hs.elim
 | refuse why => exact fun f h Q hs => hs.elim
 | region id ops draw =>
  intro f h Q hs
  simp only [SC] at hs
  split at hs
  ·obtain ⟨tm', h', q, vf, ok⟩ := SOps.ok ops ops.toList 0 _ _ (by simp) hs
   refine ⟨.norm, _, h', q, vf, fun H σ w a Q hl p hf hQ => wpIn_region ?_⟩
   have := ok (rd.map σ.b) H σ w a Q p hf.tm fun σ' H' a' w' hd ht hs => hQ σ' H' a' w' ⟨ht, by rw [hd, marks_le hs.goes.le hf.on]; exact hf.mks, fun b hb => Ren.is_le hs.goes.le (hf.on b hb)⟩ hs
   simpa [List.range_eq_range'] using this
  ·obtain ⟨tm', h', q, vf, ok⟩ := SDraw.ok hm ops hs
   refine ⟨.norm, _, h', q, vf, fun H σ w a Q hl p hf hQ => ?_⟩
   exact ok (rd.map σ.b) id H σ w a Q p hf.tm fun σ' H' a' w' hd ht hs => hQ σ' H' a' w' ⟨ht, by rw [hd, marks_le hs.goes.le hf.on]; exact hf.mks, fun b hb => Ren.is_le hs.goes.le (hf.on b hb)⟩ hs
 | seq x y ihx ihy =>
  intro f h Q hs
  obtain ⟨e, f1, h1, q1, ok1⟩ := ihx f h _ hs
  cases e with
  | norm =>
   obtain ⟨e2, f2, h2, q2, ok2⟩ := ihy f1 h1 Q q1
   refine ⟨e2, f2, h2, q2, ok1.1.trans ok2.1, fun H σ w a Q hl p hf hQ => wpIn_seq ?_⟩
   refine ok1.2 H σ w a _ hl (p.fst ok2.1.n) hf fun σ1 H1 a1 w1 hf1 hs1 => ?_
   have := ok2.2 H1 σ1 w1 a1 Q (fun l h => Ren.is_le hs1.goes.le (hl l h)) (p.snd ok1.1 hs1) hf1 fun σ2 H2 a2 w2 hf2 hs2 => hQ σ2 H2 a2 w2 hf2 (Step.trans p ok1.1 ok2.1 hs1 hs2)
   rw [FW_le hl hs1.goes.le] at this
   exact this
  | exit id => exact ⟨.exit id, f1, h1, q1, ok1.1, fun H σ w a Q hl p hf hQ => wpIn_seq (ok1.2 H σ w a _ hl p hf fun σ1 H1 a1 w1 hf1 hs1 => hQ σ1 H1 a1 w1 hf1 hs1)⟩
  | ret => exact ⟨.ret, f1, h1, q1, ok1.1, fun H σ w a Q hl p hf hQ => wpIn_seq (ok1.2 H σ w a _ hl p hf fun σ1 H1 a1 w1 hf1 hs1 => hQ σ1 H1 a1 w1 hf1 hs1)⟩
 | cond c x y ihx ihy =>
  intro f h Q hs
  simp only [SC] at hs
  split at hs
  ·rename_i t hc
   split at hs
   ·obtain ⟨e, f1, h1, q1, ok1⟩ := ihx f h Q hs
    refine ⟨e, f1, h1, q1, ok1.1, fun H σ w a Q hl p hf hQ => ?_⟩
    have hcv : zU σ (.bool true) (a.eval c) := by obtain ⟨tmps, ds⟩ := a; exact ev_tmps ds (fun t u _ hu => hf.tm.2 t u hu) hc
    exact wpIn_cond_true hcv.2 (ok1.2 H σ w a Q hl p hf hQ)
   ·obtain ⟨e, f1, h1, q1, ok1⟩ := ihy f h Q hs
    refine ⟨e, f1, h1, q1, ok1.1, fun H σ w a Q hl p hf hQ => ?_⟩
    have hcv : zU σ (.bool false) (a.eval c) := by obtain ⟨tmps, ds⟩ := a; exact ev_tmps ds (fun t u _ hu => hf.tm.2 t u hu) hc
    exact wpIn_cond_false hcv.2 (ok1.2 H σ w a Q hl p hf hQ)
  ·exact hs.elim
 | block id x ih =>
  intro f h Q hs
  obtain ⟨e, f1, h1, q1, ok1⟩ := ih f h _ hs
  cases e with
  | norm => exact ⟨.norm, f1, h1, q1, ok1.1, fun H σ w a Q hl p hf hQ => wpIn_block (ok1.2 H σ w a _ hl p hf fun σ1 H1 a1 w1 hf1 hs1 => hQ σ1 H1 a1 w1 hf1 hs1)⟩
  | ret => exact ⟨.ret, f1, h1, q1, ok1.1, fun H σ w a Q hl p hf hQ => wpIn_block (ok1.2 H σ w a _ hl p hf fun σ1 H1 a1 w1 hf1 hs1 => hQ σ1 H1 a1 w1 hf1 hs1)⟩
  | exit id' =>
   simp only at q1
   split at q1
   ·rename_i hb
    refine ⟨.norm, f1, h1, q1, ok1.1, fun H σ w a Q hl p hf hQ => wpIn_block (ok1.2 H σ w a _ hl p hf fun σ1 H1 a1 w1 hf1 hs1 => ?_)⟩
    have := hQ σ1 H1 a1 w1 hf1 hs1
    simpa [Ex.to, Exit.inBlock, Nat.eq_of_beq_eq_true hb] using this
   ·rename_i hb
    refine ⟨.exit id', f1, h1, q1, ok1.1, fun H σ w a Q hl p hf hQ => wpIn_block (ok1.2 H σ w a _ hl p hf fun σ1 H1 a1 w1 hf1 hs1 => ?_)⟩
    have := hQ σ1 H1 a1 w1 hf1 hs1
    have hne : id' ≠ id := fun e => by subst e; simp at hb
    simpa [Ex.to, Exit.inBlock, hne] using this
 | loop x ih =>
  intro f h Q hs
  obtain ⟨e, f1, h1, q1, ok1⟩ := hs
  exact ⟨e, f1, h1, q1, ok1.1, fun H σ w a Q hl p hf hQ => wpIn_loopIn (ok1.2 H σ w a Q hl p hf hQ)⟩
 | scope x ih =>
  intro f h Q hs
  obtain ⟨e, f1, h1, q1, ok1⟩ := ih f h Q hs
  refine ⟨e, f1, h1, q1, ok1.1, fun H σ w a Q hl p hf hQ => wpIn_scope ?_⟩
  refine ok1.2 H σ w a _ hl p hf fun σ1 H1 a1 w1 hf1 hs1 => ?_
  have := hQ σ1 H1 a1 w1 hf1 hs1
  cases e <;> exact this
 | rangeFunc g ps assign body _ _ => exact fun f h Q hs => xZ.ok hs

theorem SC.okD (hm : P.follows .mixedOrders = true) {R W : Set'} {rd : Option Nat} : ∀ (c : Code) (f : Fr) (h : Heap) (Q : Ex → Fr → Heap → Prop), SC ⟨P, true⟩ R W rd c f h Q → CodeD P rd c f h R W Q := by
 intro c
 induction c with
 | skip => exact fun f h Q hs H σ w a Qr hl p hf hQ => wpIn_skip (hQ .norm f h σ H a w hs (VF.refl _ _) hf (Step.refl p.inv fun b hb hw => p.agree b hb (.inr hw)))
 | label l => exact fun f h Q hs H σ w a Qr hl p hf hQ => wpIn_label (hQ .norm f h σ H a w hs (VF.refl _ _) hf (Step.refl p.inv fun b hb hw => p.agree b hb (.inr hw)))
 | exit id => exact fun f h Q hs H σ w a Qr hl p hf hQ => wpIn_exit (hQ (.exit id) f h σ H a w hs (VF.refl _ _) hf (Step.refl p.inv fun b hb hw => p.agree b hb (.inr hw)))
 | ret => exact fun f h Q hs H σ w a Qr hl p hf hQ => wpIn_ret (hQ .ret f h σ H a w hs (VF.refl _ _) hf (Step.refl p.inv fun b hb hw => p.agree b hb (.inr hw)))
 | goto l => exact fun f h Q hs => hs.elim
 | refuse why => exact fun f h Q hs => hs.elim
 | region id ops draw =>
  intro f h Q hs
  simp only [SC] at hs
  split at hs
  ·intro H σ w a Qr hl p hf hQ
   refine wpIn_region ?_
   have := SOps.okD ops (rd.map σ.b) Qr ops.toList 0 _ _ (by simp) hs H σ w a p hf.tm fun σ' H' a' w' tm' h' q vf hd ht hs => hQ .norm ⟨tm', f.mks⟩ h' σ' H' a' w' q vf ⟨ht, by rw [hd, marks_le hs.goes.le hf.on]; exact hf.mks, fun b hb => Ren.is_le hs.goes.le (hf.on b hb)⟩ hs
   simpa [List.range_eq_range'] using this
  ·intro H σ w a Qr hl p hf hQ
   exact SDraw.okD hm ops hs (rd.map σ.b) id H σ w a Qr p hf.tm fun tm' h' σ' H' a' w' q vf hd ht hs => hQ .norm ⟨tm', f.mks⟩ h' σ' H' a' w' q vf ⟨ht, by rw [hd, marks_le hs.goes.le hf.on]; exact hf.mks, fun b hb => Ren.is_le hs.goes.le (hf.on b hb)⟩ hs
 | seq x y ihx ihy =>
  intro f h Q hs H σ w a Qr hl p hf hQ
  refine wpIn_seq (ihx f h _ hs H σ w a _ hl p hf fun e f1 h1 σ1 H1 a1 w1 q1 vf1 hf1 hs1 => ?_)
  cases e with
  | norm =>
   have := ihy f1 h1 Q q1 H1 σ1 w1 a1 Qr (fun l h => Ren.is_le hs1.goes.le (hl l h)) (p.snd vf1 hs1) hf1 fun e f2 h2 σ2 H2 a2 w2 q2 vf2 hf2 hs2 => hQ e f2 h2 σ2 H2 a2 w2 q2 (vf1.trans vf2) hf2 (Step.trans p.to vf1 vf2 hs1 hs2)
   rw [FW_le hl hs1.goes.le] at this
   exact this
  | exit id => exact hQ (.exit id) f1 h1 σ1 H1 a1 w1 q1 vf1 hf1 hs1
  | ret => exact hQ .ret f1 h1 σ1 H1 a1 w1 q1 vf1 hf1 hs1
 | cond c x y ihx ihy =>
  intro f h Q hs
  simp only [SC] at hs
  split at hs
  ·rename_i t hc
   split at hs
   ·intro H σ w a Qr hl p hf hQ
    have hcv : zU σ (.bool true) (a.eval c) := by obtain ⟨tmps, ds⟩ := a; exact ev_tmps ds (fun t u _ hu => hf.tm.2 t u hu) hc
    exact wpIn_cond_true hcv.2 (ihx f h Q hs H σ w a Qr hl p hf hQ)
   ·intro H σ w a Qr hl p hf hQ
    have hcv : zU σ (.bool false) (a.eval c) := by obtain ⟨tmps, ds⟩ := a; exact ev_tmps ds (fun t u _ hu => hf.tm.2 t u hu) hc
    exact wpIn_cond_false hcv.2 (ihy f h Q hs H σ w a Qr hl p hf hQ)
  ·exact hs.elim
 | block id x ih =>
  intro f h Q hs H σ w a Qr hl p hf hQ
  refine wpIn_block (ih f h _ hs H σ w a _ hl p hf fun e f1 h1 σ1 H1 a1 w1 q1 vf1 hf1 hs1 => ?_)
  cases e with
  | norm => exact hQ .norm f1 h1 σ1 H1 a1 w1 q1 vf1 hf1 hs1
  | ret => exact hQ .ret f1 h1 σ1 H1 a1 w1 q1 vf1 hf1 hs1
  | exit id' =>
   simp only at q1
   split at q1
   ·rename_i hb
    have := hQ .norm f1 h1 σ1 H1 a1 w1 q1 vf1 hf1 hs1
    simpa [Ex.to, Exit.inBlock, Nat.eq_of_beq_eq_true hb] using this
   ·rename_i hb
    have := hQ (.exit id') f1 h1 σ1 H1 a1 w1 q1 vf1 hf1 hs1
    have hne : id' ≠ id := fun e => by subst e; simp at hb
    simpa [Ex.to, Exit.inBlock, hne] using this
 | loop x ih => exact fun f h Q hs H σ w a Qr hl p hf hQ => wpIn_loopIn (hs H σ w a Qr hl p hf hQ)
 | scope x ih =>
  intro f h Q hs H σ w a Qr hl p hf hQ
  refine wpIn_scope (ih f h Q hs H σ w a _ hl p hf fun e f1 h1 σ1 H1 a1 w1 q1 vf1 hf1 hs1 => ?_)
  have := hQ e f1 h1 σ1 H1 a1 w1 q1 vf1 hf1 hs1
  cases e <;> exact this
 | rangeFunc g ps assign body _ _ => exact fun f h Q hs => xZ.okD hs

def Ex.next (K : Fr → Heap → Prop) (Q : Ex → Fr → Heap → Prop) : Ex → Fr → Heap → Prop
 | .norm, f, h => K f h
 | .exit id, f, h => Q (.exit id) f h
 | .ret, f, h => Q .ret f h
theorem SL.of_code {R W : Set'} {rd : Option Nat} {c : Code} {f f1 : Fr} {h h1 : Heap} {e : Ex} {Q : Ex → Fr → Heap → Prop} (ok1 : CodeOk P rd c f h e f1 h1 R W) (q1 : Ex.next (fun f' h' => SL (P : MP) R W rd c f' h' Q) Q e f1 h1) : SL (P : MP) R W rd c f h Q := by
 cases e with
 | norm =>
  obtain ⟨e2, f2, h2, q2, ok2⟩ := q1
  refine ⟨e2, f2, h2, q2, ok1.1.trans ok2.1, fun H σ w a Q hl p hf hQ => loopIn_round ?_⟩
  refine ok1.2 H σ w a _ hl (p.fst ok2.1.n) hf fun σ1 H1 a1 w1 hf1 hs1 => ?_
  have := ok2.2 H1 σ1 w1 a1 Q (fun l h => Ren.is_le hs1.goes.le (hl l h)) (p.snd ok1.1 hs1) hf1 fun σ2 H2 a2 w2 hf2 hs2 => hQ σ2 H2 a2 w2 hf2 (Step.trans p ok1.1 ok2.1 hs1 hs2)
  rw [FW_le hl hs1.goes.le] at this
  exact this
 | exit id => exact ⟨.exit id, f1, h1, q1, ok1.1, fun H σ w a Q hl p hf hQ => loopIn_round (ok1.2 H σ w a _ hl p hf fun σ1 H1 a1 w1 hf1 hs1 => hQ σ1 H1 a1 w1 hf1 hs1)⟩
 | ret => exact ⟨.ret, f1, h1, q1, ok1.1, fun H σ w a Q hl p hf hQ => loopIn_round (ok1.2 H σ w a _ hl p hf fun σ1 H1 a1 w1 hf1 hs1 => hQ σ1 H1 a1 w1 hf1 hs1)⟩
theorem LoopD.of_code {R W : Set'} {rd : Option Nat} {c : Code} {f : Fr} {h : Heap} {Q : Ex → Fr → Heap → Prop} (hs : CodeD P rd c f h R W (Ex.next (fun f' h' => LoopD P rd c f' h' R W Q) Q)) : LoopD P rd c f h R W Q := by
 intro H σ w a Qr hl p hf hQ
 refine loopIn_round (hs H σ w a _ hl p hf fun e f1 h1 σ1 H1 a1 w1 q1 vf1 hf1 hs1 => ?_)
 cases e with
 | norm =>
  have := q1 H1 σ1 w1 a1 Qr (fun l h => Ren.is_le hs1.goes.le (hl l h)) (p.snd vf1 hs1) hf1 fun e f2 h2 σ2 H2 a2 w2 q2 vf2 hf2 hs2 => hQ e f2 h2 σ2 H2 a2 w2 q2 (vf1.trans vf2) hf2 (Step.trans p.to vf1 vf2 hs1 hs2)
  rw [FW_le hl hs1.goes.le] at this
  exact this
 | exit id => exact hQ (.exit id) f1 h1 σ1 H1 a1 w1 q1 vf1 hf1 hs1
 | ret => exact hQ .ret f1 h1 σ1 H1 a1 w1 q1 vf1 hf1 hs1
theorem CodeD.mono {R W : Set'} {rd : Option Nat} {c : Code} {f : Fr} {h : Heap} {Q Q' : Ex → Fr → Heap → Prop} (hs : CodeD P rd c f h R W Q) (hq : ∀ e f h, Q e f h → Q' e f h) : CodeD P rd c f h R W Q' :=
 fun H σ w a Qr hl p hf hQ => hs H σ w a Qr hl p hf fun e f' h' σ' H' a' w' q => hQ e f' h' σ' H' a' w' (hq _ _ _ q)
theorem SL.inv (hm : M.P.follows .mixedOrders = true) {R W : Set'} {rd : Option Nat} {c : Code} {Q : Ex → Fr → Heap → Prop} (I : Nat → Fr → Heap → Prop)
  (hI : ∀ k f h, I k f h → SC M R W rd c f h (Ex.next (fun f' h' => ∃ k', k' < k ∧ I k' f' h') Q)) : ∀ (k : Nat) (f : Fr) (h : Heap), I k f h → SL M R W rd c f h Q := by
 obtain ⟨P, d⟩ := M
 intro k
 induction k using Nat.strongRecOn with
 | _ k ih =>
  intro f h hi
  cases d
  ·obtain ⟨e, f1, h1, q1, ok1⟩ := SC.ok hm c f h _ (hI k f h hi)
   refine SL.of_code ok1 ?_
   cases e with
   | norm => obtain ⟨k', hk, hi'⟩ := q1; exact ih k' hk f1 h1 hi'
   | exit id => exact q1
   | ret => exact q1
  ·refine LoopD.of_code ((SC.okD hm c f h _ (hI k f h hi)).mono fun e f1 h1 q1 => ?_)
   cases e with
   | norm => obtain ⟨k', hk, hi'⟩ := q1; exact ih k' hk f1 h1 hi'
   | exit id => exact q1
   | ret => exact q1

def takeH (W : Set') : List Nat → Heap → (Heap → Prop) → Prop
 | [], h, K => K h
 | b :: r, h, K => match h.get b with
  | some (.deferred true) => W b ∧ takeH W r (h.set b (.deferred false)) K
  | _ => False
theorem takeH.ok {R W : Set'} {K : Heap → Prop} : ∀ (mks : List Nat) (h : Heap), takeH W mks h K → ∃ h', K h' ∧ VF h h' W ∧ ∀ fn tmps (Rr : Ending → World → Prop) H σ w, Pre P h h' R W H σ w → (∀ b ∈ mks, σ.is b) →
   (∀ H' w', Step P h h' W H H' σ σ w w' → ∃ v, (results fn tmps).run P w' = .ok v w' ∧ Rr (.returned v) w') → LeavesInM (FW none) 0 P fn tmps Rr (mks.map (markOf σ)) .returning w
 | [], h, hk => ⟨h, hk, VF.refl _ _, fun fn tmps Rr H σ w p _ hQ => hQ H w (Step.refl p.inv fun b hb hw => p.agree b hb (.inr hw))⟩
 | b :: r, h, hk => by
  unfold takeH at hk
  split at hk
  ·rename_i hg
   obtain ⟨hW, hk⟩ := hk
   obtain ⟨h', q, vf2, ok2⟩ := takeH.ok r _ hk
   have hbn := Heap.zD hg
   have vf1 : VF h (h.set b (.deferred false)) W := vf_set hbn _ hW
   refine ⟨h', q, vf1.trans vf2, fun fn tmps Rr H σ w p hon hQ => ?_⟩
   have hHb : H b = some (.deferred true) := by rw [p.agree b hbn (.inr hW), hg]
   obtain ⟨loc, hloc, hw⟩ := p.inv.rel b _ hHb rfl
   simp only [BRel, if_true] at hw
   have hlt : loc.blk < w.heap.size := (Array.getElem?_eq_some_iff.1 hw).1
   have p1 := p.fst (h₁ := h.set b (.deferred false)) vf2.n
   have hs := step_set (w' := w.putObj loc.blk (.deferred none)) p1 hg rfl hW hloc (putObj_size _ _ _) (fun k hk => World.putObj_heap_other hk) rfl rfl rfl (by rw [World.putObj_heap_same hlt]; simp [BRel])
   refine ⟨by simp, .inl ⟨loc.blk, _, by simp [markOf, Ren.zY hloc], run_takeDeferred hw, ?_⟩⟩
   refine ok2 fn tmps Rr _ σ _ (p.snd vf1 hs) (fun c hc => hon c (by simp [hc])) fun H' w' hs' => hQ H' w' (Step.trans p vf1 vf2 hs hs')
  ·exact hk.elim

def SRet (M : MP) (R W : Set') (fn : Func) (e : Ex) (f : Fr) (h : Heap) (Q : V → Heap → Prop) : Prop := match e with
 | .exit _ => False
 | .norm => takeH W f.mks h fun h2 => match yA M.P f.tm h2 fn.results.toList with
  | some (vs, rs) => allB R rs ∧ Q (retV vs) h2
  | none => False
 | .ret => takeH W f.mks h fun h2 => match yA M.P f.tm h2 fn.results.toList with
  | some (vs, rs) => allB R rs ∧ Q (retV vs) h2
  | none => False

theorem SF.of_det (hm : P.follows .mixedOrders = true) {f : FuncId} {fn : Func} {c : Code} {args : List V} {h : Heap} {R W : Set'} {Q : V → Heap → Prop} (hf : P.funcs[f]? = some fn) (hb : fn.body = some c)
  (hs : SC (P : MP) (fun b => h.n ≤ b ∨ R b) (fun b => h.n ≤ b ∨ W b) none c ⟨initTm fn.ntmps args, []⟩ h fun e f' h' => SRet (P : MP) (fun b => h.n ≤ b ∨ R b) (fun b => h.n ≤ b ∨ W b) fn e f' h' Q) : SF (P : MP) f args h R W Q := by
 generalize hR' : (fun b => h.n ≤ b ∨ R b) = R' at hs
 generalize hW' : (fun b => h.n ≤ b ∨ W b) = W' at hs
 obtain ⟨e, f1, h1, q1, ok1⟩ := SC.ok hm c _ h _ hs
 have key : takeH W' f1.mks h1 (fun h2 => match yA P f1.tm h2 fn.results.toList with
  | some (vs, rs) => allB R' rs ∧ Q (retV vs) h2
  | none => False) ∧ (e = .norm ∨ e = .ret) := by
  cases e with
  | norm => exact ⟨q1, .inl rfl⟩
  | ret => exact ⟨q1, .inr rfl⟩
  | exit id => exact q1.elim
 obtain ⟨hk, he⟩ := key
 obtain ⟨h2, q2, vf2, ok2⟩ := takeH.ok (P := P) (R := R') f1.mks h1 hk
 split at q2
 ·rename_i vs rs hr
  obtain ⟨hRs, hQ⟩ := q2
  refine ⟨retV vs, h2, hQ, ?_⟩
  have main : FnOk P f args h (retV vs) h2 R' W' := by
   refine ⟨ok1.1.trans vf2, fun H σ w p hon => ?_⟩
   refine callsIn_of_wp_marks hf hb trivial ?_
   refine ok1.2 H σ w _ _ (fun l h => by cases h) (p.fst vf2.n) ⟨initTm_rel hon fn.ntmps, rfl, fun b h => by cases h⟩ fun σ1 H1 a1 w1 hf1 hs1 => ?_
   have p1 := p.snd ok1.1 hs1
   have post : LeavesInM (FW none) 0 P fn a1.tmps (fun e w' => ∃ x σ' H', e = .returned x ∧ zU σ' (retV vs) x ∧ Step P h h2 W' H H' σ σ' w w') a1.defers .returning w1 := by
    rw [hf1.mks]
    refine ok2 fn a1.tmps _ H1 σ1 w1 p1 hf1.on fun H2 w2 hs2 => ?_
    have hst := Step.trans p ok1.1 vf2 hs1 hs2
    have hread : ∀ b ∈ rs, H2 b = h2.get b := fun b hb => (p1.snd vf2 hs2).agree b (evRes_lt _ _ _ hr b hb) (.inl (xJ.1 hRs b hb))
    have hres := evRes_ok (P := P) hs2.goes.inv hf1.tm (fun | .tmp t => pure (a1.tmps.getD t undef) | .cell a t => do loadVar t (← asAddr (a1.tmps.getD a undef))) (fun _ => rfl) (fun _ _ => rfl) _ _ _ hr hread
    have hret := retV_rel hres.1
    refine ⟨(retV vs).re σ1, ?_, _, σ1, H2, rfl, ⟨hret.1, rfl⟩, hst⟩
    simp only [results, Array.mapM_eq_mapM_toList, Sem.run_bind]
    simp only [map_eq_pure_bind, Sem.run_bind, Sem.run_pure]
    rw [(evRes_ok (P := P) hs2.goes.inv hf1.tm _ (fun _ => rfl) (fun _ _ => rfl) _ _ _ hr hread).2]
    simp only [Result.andThen_ok]
    rw [hret.2]
   rcases he with rfl | rfl
   ·exact post
   ·exact post
  refine main.below (fun b hb h => ?_) (fun b hb h => ?_)
  ·rw [← hR'] at h; exact h.resolve_left (by omega)
  ·rw [← hW'] at h; exact h.resolve_left (by omega)
 ·exact q2.elim

theorem SF.of_dem (hm : P.follows .mixedOrders = true) {f : FuncId} {fn : Func} {c : Code} {args : List V} {h : Heap} {R W : Set'} {Q : V → Heap → Prop} (hf : P.funcs[f]? = some fn) (hb : fn.body = some c)
  (hs : SC ⟨P, true⟩ (fun b => h.n ≤ b ∨ R b) (fun b => h.n ≤ b ∨ W b) none c ⟨initTm fn.ntmps args, []⟩ h fun e f' h' => SRet ⟨P, true⟩ (fun b => h.n ≤ b ∨ R b) (fun b => h.n ≤ b ∨ W b) fn e f' h' Q) : SF ⟨P, true⟩ f args h R W Q := by
 generalize hR' : (fun b => h.n ≤ b ∨ R b) = R' at hs
 generalize hW' : (fun b => h.n ≤ b ∨ W b) = W' at hs
 have okc := SC.okD hm c _ h _ hs
 have main : FnD P f args h R' W' Q := by
  intro H σ w p hon
  refine callsIn_of_wp_marks hf hb trivial ?_
  refine okc H σ w _ _ (fun l h => by cases h) p ⟨initTm_rel hon fn.ntmps, rfl, fun b h => by cases h⟩ fun e f1 h1 σ1 H1 a1 w1 q1 vf1 hf1 hs1 => ?_
  have p1 := p.snd vf1 hs1
  have key : takeH W' f1.mks h1 (fun h2 => match yA P f1.tm h2 fn.results.toList with
   | some (vs, rs) => allB R' rs ∧ Q (retV vs) h2
   | none => False) ∧ (e = .norm ∨ e = .ret) := by
   cases e with
   | norm => exact ⟨q1, .inl rfl⟩
   | ret => exact ⟨q1, .inr rfl⟩
   | exit id => exact q1.elim
  obtain ⟨hk, he⟩ := key
  obtain ⟨h2, q2, vf2, ok2⟩ := takeH.ok (P := P) (R := R') f1.mks h1 hk
  split at q2
  ·rename_i vs rs hr
   obtain ⟨hRs, hQ⟩ := q2
   have post : LeavesInM (FW none) 0 P fn a1.tmps (fun e w' => ∃ x σ' H' v h', Q v h' ∧ VF h h' W' ∧ e = .returned x ∧ zU σ' v x ∧ Step P h h' W' H H' σ σ' w w') a1.defers .returning w1 := by
    rw [hf1.mks]
    refine ok2 fn a1.tmps _ H1 σ1 w1 p1.to hf1.on fun H2 w2 hs2 => ?_
    have hst := Step.trans p.to vf1 vf2 hs1 hs2
    have hread : ∀ b ∈ rs, H2 b = h2.get b := fun b hb => (p1.snd vf2 hs2).agree b (evRes_lt _ _ _ hr b hb) (.inl (xJ.1 hRs b hb))
    have hres := evRes_ok (P := P) hs2.goes.inv hf1.tm (fun | .tmp t => pure (a1.tmps.getD t undef) | .cell a t => do loadVar t (← asAddr (a1.tmps.getD a undef))) (fun _ => rfl) (fun _ _ => rfl) _ _ _ hr hread
    have hret := retV_rel hres.1
    refine ⟨(retV vs).re σ1, ?_, _, σ1, H2, retV vs, h2, hQ, vf1.trans vf2, rfl, ⟨hret.1, rfl⟩, hst⟩
    simp only [results, Array.mapM_eq_mapM_toList, Sem.run_bind]
    simp only [map_eq_pure_bind, Sem.run_bind, Sem.run_pure]
    rw [(evRes_ok (P := P) hs2.goes.inv hf1.tm _ (fun _ => rfl) (fun _ _ => rfl) _ _ _ hr hread).2]
    simp only [Result.andThen_ok]
    rw [hret.2]
   rcases he with rfl | rfl
   ·exact post
   ·exact post
  ·exact q2.elim
 refine FnD.below main (fun b hb h => ?_) (fun b hb h => ?_)
 ·rw [← hR'] at h; exact h.resolve_left (by omega)
 ·rw [← hW'] at h; exact h.resolve_left (by omega)
theorem SF.of (hm : M.P.follows .mixedOrders = true) {f : FuncId} {fn : Func} {c : Code} {args : List V} {h : Heap} {R W : Set'} {Q : V → Heap → Prop} (hf : M.P.funcs[f]? = some fn) (hb : fn.body = some c)
  (hs : SC M (fun b => h.n ≤ b ∨ R b) (fun b => h.n ≤ b ∨ W b) none c ⟨initTm fn.ntmps args, []⟩ h fun e f' h' => SRet M (fun b => h.n ≤ b ∨ R b) (fun b => h.n ≤ b ∨ W b) fn e f' h' Q) : SF M f args h R W Q := by
 obtain ⟨P, d⟩ := M
 cases d
 ·exact SF.of_det hm hf hb hs
 ·exact SF.of_dem hm hf hb hs

end Go.Vm
set_option linter.unusedVariables false
namespace Go.Vm
variable {P : Program}

theorem Tr.get_node {α : Type} (l r : Tr α) (v : Option α) (n : Nat) : (Tr.node l v r).get n = if n = 0 then v else if n % 2 = 1 then l.get (n / 2) else r.get (n / 2 - 1) := by
  rw [Tr.get]
  cases h0 : Nat.beq n 0 with
  | true => have := Nat.eq_of_beq_eq_true h0; simp [this]
  | false =>
    have : n ≠ 0 := fun e => by subst e; simp at h0
    rw [if_neg this]
    cases h1 : Nat.beq (n % 2) 1 with
    | true => have := Nat.eq_of_beq_eq_true h1; rw [if_pos this]
    | false => have : n % 2 ≠ 1 := fun e => by rw [e] at h1; simp at h1
               rw [if_neg this]
theorem Tr.put_node {α : Type} (f : Nat) (l r : Tr α) (v : Option α) (n : Nat) (x : α) : Tr.put (f + 1) (Tr.node l v r) n x = if n = 0 then .node l (some x) r else if n % 2 = 1 then .node (Tr.put f l (n / 2) x) v r else .node l v (Tr.put f r (n / 2 - 1) x) := by
  rw [Tr.put]
  cases h0 : Nat.beq n 0 with
  | true => have := Nat.eq_of_beq_eq_true h0; simp [this]
  | false =>
    have : n ≠ 0 := fun e => by subst e; simp at h0
    rw [if_neg this]
    cases h1 : Nat.beq (n % 2) 1 with
    | true => have := Nat.eq_of_beq_eq_true h1; rw [if_pos this]
    | false => have : n % 2 ≠ 1 := fun e => by rw [e] at h1; simp at h1
               rw [if_neg this]
theorem Tr.put_nil {α : Type} (f : Nat) (n : Nat) (x : α) : Tr.put (f + 1) Tr.nil n x = if n = 0 then .node .nil (some x) .nil else if n % 2 = 1 then .node (Tr.put f .nil (n / 2) x) none .nil else .node .nil none (Tr.put f .nil (n / 2 - 1) x) := by
  rw [Tr.put]
  cases h0 : Nat.beq n 0 with
  | true => have := Nat.eq_of_beq_eq_true h0; simp [this]
  | false =>
    have : n ≠ 0 := fun e => by subst e; simp at h0
    rw [if_neg this]
    cases h1 : Nat.beq (n % 2) 1 with
    | true => have := Nat.eq_of_beq_eq_true h1; rw [if_pos this]
    | false => have : n % 2 ≠ 1 := fun e => by rw [e] at h1; simp at h1
               rw [if_neg this]
theorem Tm.kL (n : Nat) (tr : Tr V) (i : Nat) : Tm.get ⟨n, tr⟩ i = tr.get i := rfl
theorem Tm.set_mk (n : Nat) (tr : Tr V) (i : Nat) (v : V) : Tm.set ⟨n, tr⟩ i v = if i < n then ⟨n, Tr.put (i + 1) tr i v⟩ else ⟨n, tr⟩ := by
 unfold Tm.set
 by_cases h : i < n
 ·simp [blt_true h, h, Tr.set]
 ·simp [yD h, h]
theorem Tm.put_some (t : Tm) (i : Nat) (v : V) : Tm.put t (some i) v = t.set i v := rfl
theorem Tm.put_none (t : Tm) (v : V) : Tm.put t none v = t := rfl

section
variable (tm : Tm) (h : Heap)
theorem evV_tmp (t : Tmp) : evV tm (.tmp t) = tm.get t := rfl
theorem evV_func (f : FuncId) : evV tm (.func f) = some (.func f [] []) := rfl
theorem evV_int (k : IntKind) (n : Int) : evV tm (.const (.int k n)) = some (.int k n) := rfl
theorem evV_bool (b : Bool) : evV tm (.const (.bool b)) = some (.bool b) := rfl
theorem evV_str (s : ByteArray) : evV tm (.const (.string s)) = some (.str s) := rfl
theorem evV_nilp : evV tm (.const (.pointer none)) = some (.ptr none) := rfl
theorem evV_nils (n c : Nat) : evV tm (.const (.slice none n c)) = some (.slice none n c true) := rfl
theorem evV_nilf : evV tm (.const .nilFunc) = some .nilFunc := rfl
end

end Go.Vm
