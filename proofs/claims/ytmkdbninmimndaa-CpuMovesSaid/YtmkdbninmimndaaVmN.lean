/- A statement whose order is open: the law, and the virtual machine's own run of it. -/
import Derived.Test.YtmkdbninmimndaaVmM
set_option linter.unusedVariables false
set_option linter.unusedSimpArgs false
namespace Go.Vm
variable {P : Program}

def Dl (listed : Array Bool) : Nat → Prop := fun k => listed[k]? = some true
theorem Dl_set {listed : Array Bool} {j : Nat} (hj : j < listed.size) (k : Nat) : Dl (listed.setIfInBounds j true) k ↔ Dl listed k ∨ k = j := by
  unfold Dl
  rw [Array.getElem?_setIfInBounds]
  by_cases e : j = k
  · subst e; simp [hj]
  · simp [e]; exact fun h => absurd h.symm e
theorem mem_ready {opsA : Array Oper} {listed : Array Bool} {i : Nat} : i ∈ Region.ready .any opsA listed ↔ i < opsA.size ∧ listed.getD i true = false ∧ ∀ o, opsA[i]? = some o → ∀ e ∈ o.after, Region.binds .any e = true → listed.getD e.on false = true := by
  simp only [Region.ready, List.mem_filter, List.mem_range]
  constructor
  · rintro ⟨h1, h2⟩
    simp only [Bool.and_eq_true, Bool.not_eq_true'] at h2
    refine ⟨h1, h2.1, fun o ho e he hb => ?_⟩
    have h3 := h2.2
    simp only [ho, Option.map_some, Option.getD_some] at h3
    have := (Array.all_eq_true_iff_forall_mem.1 h3) e he
    simpa [hb] using this
  · rintro ⟨h1, h2, h3⟩
    refine ⟨h1, ?_⟩
    simp only [Bool.and_eq_true, Bool.not_eq_true']
    refine ⟨h2, ?_⟩
    simp only [Array.getElem?_eq_getElem h1, Option.map_some, Option.getD_some]
    rw [Array.all_eq_true_iff_forall_mem]
    intro e he
    by_cases hb : Region.binds .any e = true
    · simp [h3 _ (Array.getElem?_eq_getElem h1) e he hb]
    · simp [hb]

theorem wp_draw (hm : P.follows .mixedOrders = true) {rd vrd : Option Nat} {opsA : Array Oper} {hs : Nat → Heap} {tms : Nat → Tm} {vs : Nat → V} {R W : Nat → Set'} (r : Run P rd opsA hs tms vs R W) {Rt Wt : Set'}
    (hR : ∀ k b, k < opsA.size → b < (hs 0).n → R k b → Rt b) (hW : ∀ k b, k < opsA.size → b < (hs 0).n → W k b → Wt b) {rid : Nat} {H0 : HF} {σ0 : Ren} {w0 : World} {a : Act} {Q : Exit → Act → World → Prop}
    (p0 : Pre P (hs 0) (hs opsA.size) Rt Wt H0 σ0 w0) (ht : TRel σ0 (tms 0) a.tmps)
    (hQ : ∀ σ' H' a' w', a'.defers = a.defers → TRel σ' (tms opsA.size) a'.tmps → Step P (hs 0) (hs opsA.size) Wt H0 H' σ0 σ' w0 w' → Q .normal a' w') :
    (Code.region rid opsA true).wpIn (FW rd) 0 P Q a w0 := by
  refine wpIn_region_any hm ?_
  have hRW : ∀ k b, k < opsA.size → b < (hs 0).n → R k b ∨ W k b → Rt b ∨ Wt b := fun k b hk hb h => h.imp (hR k b hk hb) (hW k b hk hb)
  -- the end
  have fin : ∀ (listed : Array Bool) (a' : Act) (w' : World) σ H, listed.size = opsA.size → RInv P opsA hs tms W H0 σ0 w0 a.tmps a.defers (Dl listed) σ H a' w' → Region.ready .any opsA listed = [] → Q .normal a' w' := by
    intro listed a' w' σ H hsz i hnil
    have hall : ∀ k, k < opsA.size → Dl listed k := by
      intro k
      induction k using Nat.strongRecOn with
      | _ k ih =>
        intro hk
        by_cases hd : Dl listed k
        · exact hd
        · exfalso
          have : k ∈ Region.ready .any opsA listed := by
            refine mem_ready.2 ⟨hk, ?_, fun o ho e he hb => ?_⟩
            · have hk' : k < listed.size := by omega
              have : listed[k] ≠ true := fun e => hd (by unfold Dl; rw [Array.getElem?_eq_getElem hk', e])
              simpa [Array.getD_eq_getD_getElem?, Array.getElem?_eq_getElem hk'] using this
            · have hlt := r.edge k o ho e he hb
              have := ih e.on hlt (by omega)
              unfold Dl at this
              simp [Array.getD_eq_getD_getElem?, this]
          rw [hnil] at this
          cases this
    refine hQ σ H a' w' i.defers ⟨?_, fun t u hu => ?_⟩ ⟨?_, fun b hb => ?_⟩
    · rw [i.size]
      have : ∀ q, q ≤ opsA.size → (tms q).n = (tms 0).n := by
        intro q
        induction q with
        | zero => intro _; rfl
        | succ q ih =>
          intro hq
          obtain ⟨oq, hoq⟩ := r.get (i := q) (by omega)
          rw [(r.step q oq hoq).1, ← ih (by omega)]
          cases oq.dst with
          | none => rfl
          | some d => exact Tm.n_set _ _ _
      exact (this _ (Nat.le_refl _)).symm
    · exact i.temps r (Nat.le_refl _) (fun h => by omega) (fun o ho => by simp at ho) (fun _ k hk => hall k hk) (fun o ho => by simp at ho) hu
    · have g := i.goes
      have hN : ∀ b, ND opsA.size hs (Dl listed) b ↔ New (hs 0) (hs opsA.size) b := by
        intro b
        constructor
        · rintro ⟨k, h1, h2, h3⟩
          exact ⟨Nat.le_trans (r.n_mono (Nat.zero_le _) (by omega)) h3.1, Nat.lt_of_lt_of_le h3.2 (r.n_mono (by omega) (Nat.le_refl _))⟩
        · rintro ⟨h1, h2⟩
          obtain ⟨k, hk, hkn⟩ := r.made (Nat.le_refl _) h1 h2
          exact ⟨k, hk, hall k hk, hkn⟩
      have hWW : ∀ b, WD opsA.size hs W (Dl listed) b → Old (hs 0) Wt b := fun b ⟨h1, k, h2, _, h3⟩ => ⟨h1, hW k b h2 h1 h3⟩
      have g' := g.more hWW
      exact { g' with
        dom := fun b l h => (g'.dom b l h).imp id (hN b).1
        virt := fun b h1 h2 => g'.virt b h1 fun h => h2 ((hN b).1 h)
        dead := fun b h1 h2 => g'.dead b (fun h => h1 ((hN b).1 h)) h2
        fresh := fun b l h1 h2 h3 => (g'.fresh b l ((hN b).2 h1) h2 h3).imp id fun ⟨c, lc, h4, h5, h6, h7⟩ => ⟨c, lc, h4, h5, fun h => h6 ((hN c).2 h), h7⟩ }
    · refine i.blocks r p0 hRW (Nat.le_refl _) (fun h => by omega) (fun o ho => by simp at ho) (fun _ k hk => hall k hk) ?_ ⟨fun h => by omega, fun _ h => ?_⟩
      · rcases hb with hb | hb
        · exact hb.2
        · exact Nat.lt_of_lt_of_le hb.1 (r.n_mono (Nat.zero_le _) (Nat.le_refl _))
      · rcases hb with hb | hb
        · have := hb.1; omega
        · exact .inr hb.2
  -- the rounds
  have main : ∀ (fuel : Nat) (listed : Array Bool) (a' : Act) (w' : World), listed.size = opsA.size → listed.toList.countP (fun x => !x) ≤ fuel →
      (∃ σ H, RInv P opsA hs tms W H0 σ0 w0 a.tmps a.defers (Dl listed) σ H a' w') → wpAnyIn (FW rd) 0 P .any opsA Q fuel listed a' w' := by
    intro fuel
    induction fuel with
    | zero =>
      rintro listed a' w' hsz hcount ⟨σ, H, i⟩
      have hnil : Region.ready .any opsA listed = [] := by
        rw [List.eq_nil_iff_forall_not_mem]
        intro k hk
        obtain ⟨h1, h2, _⟩ := mem_ready.1 hk
        have hk' : k < listed.size := by omega
        have hz : listed.toList.countP (fun x => !x) = 0 := by omega
        rw [List.countP_eq_zero] at hz
        have := hz listed[k] (by simp)
        simp [Array.getD_eq_getD_getElem?, Array.getElem?_eq_getElem hk'] at h2
        simp [h2] at this
      exact ⟨hnil, fin listed a' w' σ H hsz i hnil⟩
    | succ fuel ih =>
      rintro listed a' w' hsz hcount ⟨σ, H, i⟩
      refine ⟨fun hnil => fin listed a' w' σ H hsz i hnil, fun j hj => ?_⟩
      obtain ⟨h1, h2, h3⟩ := mem_ready.1 hj
      obtain ⟨o, ho⟩ := r.get h1
      have hjs : j < listed.size := by omega
      have hjD : ¬ Dl listed j := by
        intro h; unfold Dl at h
        simp [Array.getD_eq_getD_getElem?, h] at h2
      have hready : ∀ e ∈ o.after, Region.binds .any e = true → Dl listed e.on := by
        intro e he hb
        have := h3 o ho e he hb
        unfold Dl
        cases hq : listed[e.on]? with
        | none => simp [Array.getD_eq_getD_getElem?, hq] at this
        | some y => simp [Array.getD_eq_getD_getElem?, hq] at this; rw [this]
      have hready' : ∀ o', opsA[j]? = some o' → ∀ e ∈ o'.after, Region.binds .any e = true → Dl listed e.on := fun o' h => by rw [ho] at h; cases h; exact hready
      have hcount' : (listed.setIfInBounds j true).toList.countP (fun x => !x) ≤ fuel := by
        have hlj : listed[j] = false := by simpa [Array.getD_eq_getD_getElem?, Array.getElem?_eq_getElem hjs] using h2
        have hjl : j < listed.toList.length := by simpa using hjs
        rw [Array.toList_setIfInBounds, List.countP_set hjl]
        have hpos : 0 < listed.toList.countP (fun x => !x) := List.countP_pos_iff.2 ⟨listed[j], by simp, by simp [hlj]⟩
        simp only [Array.getElem_toList, hlj, Bool.not_false, if_true, Bool.not_true, Bool.false_eq_true, if_false]
        omega
      obtain ⟨hput, hvf, hcase⟩ := r.step j o ho
      have hwant : ∀ b, wantV opsA.toList (tms j) o = some b → Region.wanted o (yielded opsA a'.tmps) = b := fun b hb => wantV_ok hb fun g want q t u hg hq hd hu =>
        i.temps r (by omega) (fun _ => hjD) hready' (fun h => by omega) (fun o' ho' => by
          rw [ho] at ho'; cases ho'
          have hq' : opsA.toList[g]? = some q := by simpa using hq
          simp [looks, hg, hq', hd]) hu
      have pj : Pre P (hs j) (hs (j + 1)) (R j) (W j) H σ w' := by
        refine ⟨fun b hb hRb => i.blocks r p0 hRW (by omega) (fun _ => hjD) hready' (fun h => by omega) hb ⟨fun _ => hRb, fun h => by omega⟩, fun b hb => ?_, i.goes.inv⟩
        have hb0 : New (hs 0) (hs opsA.size) b := ⟨Nat.le_trans (r.n_mono (Nat.zero_le _) (by omega)) hb.1, Nat.lt_of_lt_of_le hb.2 (r.n_mono (by omega) (Nat.le_refl _))⟩
        have hother : ∀ k, k < opsA.size → Dl listed k → ¬ WtB hs W k b := by
          intro k hk hDk hw
          have hkj : k ≠ j := fun e => hjD (e ▸ hDk)
          rcases Nat.lt_or_ge k j with h | h
          · have := r.n_mono (i := k + 1) (j := j) (by omega) (by omega)
            have hlt : b < (hs (k + 1)).n := by
              rcases hw with hw | hw
              · exact Nat.lt_of_lt_of_le hw.1 (r.vf hk).n
              · exact hw.2
            have := hb.1; omega
          · have hlt : j < k := by omega
            have hle := r.n_mono (i := j + 1) (j := k) (by omega) (by omega)
            rcases hw with hw | hw
            · rcases r.apartH j k hlt hk with h' | h'
              · exact hjD (h' _ i.closed hDk)
              · exact h'.1 b (.inr hb) ⟨hw.1, .inr hw.2⟩
            · have := hw.1; have := hb.2; omega
        constructor
        · cases hsb : σ b with
          | none => rfl
          | some l =>
            rcases i.goes.dom b l hsb with h' | ⟨k, hk, hDk, hkn⟩
            · rw [(p0.fresh b hb0).1] at h'; cases h'
            · exact absurd (.inr hkn) (hother k hk hDk)
        · rw [i.h0 b hother]; exact (p0.fresh b hb0).2
      have go : ∀ x σ' H' w'', VRel σ' (vs j) x → Step P (hs j) (hs (j + 1)) (W j) H H' σ σ' w' w'' → wpAnyIn (FW rd) 0 P .any opsA Q fuel (listed.setIfInBounds j true) (a'.put o.dst x) w'' := by
        intro x σ' H' w'' hx hst
        refine ih _ _ _ (by simpa using hsz) hcount' ⟨σ', H', ?_⟩
        exact i.next r p0 ho hjD hready hst hx (Dl_set hjs)
      unfold wpOpIn
      simp only [ho]
      rcases hcase with ⟨hw, hok⟩ | ⟨hw, hv, hh, hnw⟩
      · rw [if_pos (hwant true hw)]
        refine hok.2 H σ w' a' _ Q pj (fun x hx v hv => ?_) go
        obtain ⟨tmps', ds'⟩ := a'
        exact ev_tmps ds' (fun t u e hu => i.temps r (by omega) (fun _ => hjD) hready' (fun h => by omega) (fun o' ho' => by
          rw [ho] at ho'; cases ho'
          refine List.mem_append_left _ (List.mem_filterMap.2 ⟨x, by simpa using hx, ?_⟩)
          rw [e]) hu) hv
      · rw [if_neg (by rw [hwant false hw]; simp)]
        refine ⟨fun _ _ => trivial, ?_⟩
        refine go undef σ H w' (by rw [hv]; exact ⟨undefV_on _, (undefV_re _).symm⟩) ?_
        rw [hh]
        exact Step.refl i.goes.inv fun b _ h => absurd h (hnw b)
  refine main opsA.size _ a _ (by simp) (by simp [List.countP_replicate]) ⟨σ0, H0, ?_⟩
  have hD : ∀ k, ¬ Dl (Array.replicate opsA.size false) k := by
    intro k h; unfold Dl at h; simp [Array.getElem?_replicate] at h
  refine ⟨fun k o _ hk => absurd hk (hD k), ?_, fun b _ => rfl, fun b k _ hk => absurd hk (hD k), ht.1, fun t _ u hu => ht.2 t u hu, fun t k _ hk => absurd hk (hD k), rfl⟩
  exact (Goes.refl p0.inv (fun b ⟨k, _, hk, _⟩ => hD k hk)).heap rfl rfl rfl rfl

end Go.Vm
