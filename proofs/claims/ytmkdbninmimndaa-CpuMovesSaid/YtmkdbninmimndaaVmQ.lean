/- The virtual machine's calls: functions and rounds; and that the machine is right. -/
import Derived.Test.YtmkdbninmimndaaVmP
set_option linter.unusedVariables false
set_option linter.unusedSimpArgs false
namespace Go.Vm
variable {P : Program}

/-! ### entering -/
def setL (tm : Tm) : Nat → List V → Tm
  | _, [] => tm
  | i, v :: r => setL (tm.set i v) (i + 1) r
def initTm (n : Nat) (args : List V) : Tm := setL ⟨args.length + (n - args.length), .nil⟩ 0 args
theorem setL_n (l : List V) : ∀ (tm : Tm) (k : Nat), (setL tm k l).n = tm.n := by
  induction l with
  | nil => intro tm k; rfl
  | cons v r ih => intro tm k; simp [setL, ih, Tm.n_set]
theorem setL_get (l : List V) : ∀ (tm : Tm) (k i : Nat), k + l.length ≤ tm.n → (setL tm k l).get i = if k ≤ i ∧ i < k + l.length then l[i - k]? else tm.get i := by
  induction l with
  | nil => intro tm k i _; simp [setL]; omega
  | cons v r ih =>
    intro tm k i h
    simp only [List.length_cons] at h
    simp only [setL, List.length_cons]
    rw [ih _ _ _ (by rw [Tm.n_set]; omega), Tm.get_set _ _ _ _ (by omega)]
    by_cases h1 : k + 1 ≤ i ∧ i < k + 1 + r.length
    · rw [if_pos h1, if_pos (by omega), show i - k = (i - (k + 1)) + 1 by omega]; simp
    · rw [if_neg h1]
      by_cases h2 : i = k
      · subst h2; simp
      · rw [if_neg h2, if_neg (by omega)]
theorem initTm_rel {σ : Ren} {args : List V} (hon : V.onL σ args) (n : Nat) : TRel σ (initTm n args) ((V.reL σ args).toArray ++ Array.replicate (n - (V.reL σ args).toArray.size) undef) := by
  have hsz : (V.reL σ args).toArray.size = args.length := by simp [V.reL_eq]
  refine ⟨by simp [initTm, setL_n, V.reL_eq], fun i v hv => ?_⟩
  rw [initTm, setL_get _ _ _ _ (by simp)] at hv
  by_cases h : 0 ≤ i ∧ i < 0 + args.length
  · rw [if_pos h, Nat.sub_zero] at hv
    refine ⟨(V.onL_iff _ _).1 hon v (List.mem_of_getElem? hv), ?_⟩
    have hi : i < (V.reL σ args).toArray.size := by rw [hsz]; omega
    rw [Array.getD_eq_getD_getElem?, Array.getElem?_append_left hi]
    simp [V.reL_eq, hv]
  · rw [if_neg h] at hv
    simp [Tm.get, Tr.get_nil] at hv

/-! ### leaving -/
theorem run_loadV {h : Heap} {t : TypeId} {b off : Nat} {v : V} (hv : loadV P t h b off = some v) {H : HF} {σ : Ren} {w : World} (hi : Inv P H σ w) (hH : H b = h.get b) : v.on σ ∧ (loadVar t (reA σ (b, off))).run P w = .ok (v.re σ) w := by
  unfold loadV at hv
  split at hv
  · rename_i c e hg
    split at hv
    · rename_i ha
      split at hv
      · rename_i n hn
        split at hv
        · rename_i hle
          cases hv
          have h2 := loadCells_rel hi (by rw [hH, hg]) off n (Nat.le_of_ble_eq_true hle)
          exact ⟨h2.1, by simp [loadVar, run_aggV ha, run_szV hn, h2.2, V.re]⟩
        · cases hv
      · cases hv
    · rename_i ha
      split at hv
      · rename_i hlt
        cases hv
        have h2 := cell_of_rel hi (show H b = some (.cells c e) by rw [hH, hg]) (Nat.blt_eq.mp hlt)
        exact ⟨h2.1, by simp [loadVar, run_aggV ha, load, Sem.run, h2.2]⟩
      · cases hv
    · cases hv
  · cases hv
theorem loadV_lt {h : Heap} {t : TypeId} {b off : Nat} {v : V} (hv : loadV P t h b off = some v) : b < h.n := by
  unfold loadV at hv
  split at hv
  · rename_i hg; exact Heap.get_lt hg
  · cases hv

def evRes (P : Program) (tm : Tm) (h : Heap) : List ResultVar → Option (List V × List Nat)
  | [] => some ([], [])
  | .tmp t :: r => match tm.get t with
    | some v => match evRes P tm h r with
      | some (vs, rs) => some (v :: vs, rs)
      | none => none
    | none => none
  | .cell a t :: r => match tm.get a with
    | some (.ptr (some (b, off))) => match loadV P t h b off with
      | some v => match evRes P tm h r with
        | some (vs, rs) => some (v :: vs, b :: rs)
        | none => none
      | none => none
    | _ => none
def retV : List V → V
  | [v] => v
  | vs => .tuple vs
theorem evRes_ok {tm : Tm} {h : Heap} {H : HF} {σ : Ren} {w : World} {arr : Array Value} (hi : Inv P H σ w) (ht : TRel σ tm arr) (g : ResultVar → Sem Value) (hg1 : ∀ t, g (.tmp t) = pure (arr.getD t undef)) (hg2 : ∀ a t, g (.cell a t) = do loadVar t (← asAddr (arr.getD a undef))) :
    ∀ (l : List ResultVar) (vs : List V) (rs : List Nat), evRes P tm h l = some (vs, rs) → (∀ b ∈ rs, H b = h.get b) → V.onL σ vs ∧ (l.mapM g).run P w = .ok (V.reL σ vs) w
  | [], vs, rs, hv, _ => by cases hv; exact ⟨trivial, by simp [V.reL]⟩
  | .tmp t :: r, vs, rs, hv, hr => by
    unfold evRes at hv
    split at hv
    · rename_i v hvt
      split at hv
      · rename_i us rs' hu
        cases hv
        have h1 := ht.2 t v hvt
        have h2 := evRes_ok hi ht g hg1 hg2 r us rs hu hr
        exact ⟨⟨h1.1, h2.1⟩, by simp [List.mapM_cons, hg1, h1.2, h2.2, V.reL]⟩
      · cases hv
    · cases hv
  | .cell a t :: r, vs, rs, hv, hr => by
    unfold evRes at hv
    split at hv
    · rename_i b off hvt
      split at hv
      · rename_i v hl
        split at hv
        · rename_i us rs' hu
          cases hv
          have h1 := ht.2 a _ hvt
          have h2 := evRes_ok hi ht g hg1 hg2 r us rs' hu (fun c hc => hr c (by simp [hc]))
          have h3 := run_loadV hl hi (hr b (by simp))
          refine ⟨⟨h3.1, h2.1⟩, ?_⟩
          rw [List.mapM_cons]
          simp only [hg2, h1.2, V.re, Option.map_some, asAddr, Sem.run_bind, Sem.run_pure, Result.andThen_ok, h3.2, h2.2, V.reL]
        · cases hv
      · cases hv
    · cases hv
theorem evRes_lt {tm : Tm} {h : Heap} : ∀ (l : List ResultVar) (vs : List V) (rs : List Nat), evRes P tm h l = some (vs, rs) → ∀ b ∈ rs, b < h.n
  | [], vs, rs, hv => by cases hv; simp
  | .tmp t :: r, vs, rs, hv => by
    unfold evRes at hv
    split at hv
    · split at hv
      · rename_i us rs' hu; cases hv; exact evRes_lt r us rs hu
      · cases hv
    · cases hv
  | .cell a t :: r, vs, rs, hv => by
    unfold evRes at hv
    split at hv
    · split at hv
      · rename_i v hl
        split at hv
        · rename_i us rs' hu; cases hv
          intro c hc
          rcases List.mem_cons.1 hc with rfl | hc
          · exact loadV_lt hl
          · exact evRes_lt r us rs' hu c hc
        · cases hv
      · cases hv
    · cases hv
theorem retV_rel {σ : Ren} {vs : List V} (hon : V.onL σ vs) : (retV vs).on σ ∧ (if h : (V.reL σ vs).toArray.size = 1 then (V.reL σ vs).toArray[0] else Value.tuple (V.reL σ vs).toArray) = (retV vs).re σ := by
  match vs, hon with
  | [], _ => exact ⟨trivial, by simp [V.reL, retV, V.re]⟩
  | [v], h => exact ⟨h.1, by simp [V.reL, retV]⟩
  | v :: u :: r, h => exact ⟨h, by simp [V.reL, retV, V.re]⟩

def takeM : List Nat → St → Option St
  | [], s => some s
  | b :: r, s => match s.h.get b with
    | some (.deferred true) => takeM r (s.add (s.h.set b (.deferred false)) [] [b])
    | _ => none
theorem takeM_ok : ∀ (mks : List Nat) (s s' : St), takeM mks s = some s' → s.le s' ∧ VF s.h s'.h s'.W ∧ ∀ fn tmps (Rr : Ending → World → Prop) H σ w, Pre P s.h s'.h s'.R s'.W H σ w → (∀ b ∈ mks, σ.is b) →
      (∀ H' w', Step P s.h s'.h s'.W H H' σ σ w w' → ∃ v, (results fn tmps).run P w' = .ok v w' ∧ Rr (.returned v) w') → LeavesInM (FW none) 0 P fn tmps Rr (mks.map (markOf σ)) .returning w
  | [], s, s', hv => by
    cases hv
    refine ⟨St.le_refl _, VF.refl _ _, fun fn tmps Rr H σ w p _ hQ => ?_⟩
    exact hQ H w (Step.refl p.inv fun b hb hw => p.agree b hb (.inr hw))
  | b :: r, s, s', hv => by
    unfold takeM at hv
    split at hv
    · rename_i hg
      obtain ⟨l2, vf2, ok2⟩ := takeM_ok r _ _ hv
      have l1 := s.le_add (s.h.set b (.deferred false)) [] [b]
      have hbn := Heap.get_lt hg
      have hW : s'.W b := l2.W b (s.add_W _ _ _ b (by simp))
      have vf1 : VF s.h (s.h.set b (.deferred false)) s'.W := vf_set hbn _ hW
      refine ⟨St.le_trans l1 l2, vf1.trans vf2, fun fn tmps Rr H σ w p hon hQ => ?_⟩
      have hHb : H b = some (.deferred true) := by rw [p.agree b hbn (.inr hW), hg]
      obtain ⟨loc, hloc, hw⟩ := p.inv.rel b _ hHb rfl
      simp only [BRel, if_true] at hw
      have hlt : loc.blk < w.heap.size := (Array.getElem?_eq_some_iff.1 hw).1
      have p1 := p.fst (h₁ := s.h.set b (.deferred false)) vf2.n
      have hs := step_set (w' := w.putObj loc.blk (.deferred none)) p1 hg rfl hW hloc (putObj_size _ _ _) (fun k hk => World.putObj_heap_other hk) rfl rfl rfl (by rw [World.putObj_heap_same hlt]; simp [BRel])
      refine ⟨by simp, .inl ⟨loc.blk, _, by simp [markOf, Ren.b_eq hloc], run_takeDeferred hw, ?_⟩⟩
      refine ok2 fn tmps Rr _ σ _ (p.snd vf1 hs) (fun c hc => hon c (by simp [hc])) fun H' w' hs' => hQ H' w' (Step.trans p vf1 vf2 hs hs')
    · cases hv

/-! ### functions -/
def evFn (P : Program) (inv : InvT) (L : Nat) (f : FuncId) (args : List V) (s : St) : Option (V × St) := match P.funcs[f]? with
  | some fn => match fn.body with
    | some c => match evCode P inv L none c ⟨initTm fn.ntmps args, []⟩ s with
      | some (.exit _, _, _) => none
      | some (_, f1, s1) => match takeM f1.mks s1 with
        | some s2 => match evRes P f1.tm s2.h fn.results.toList with
          | some (vs, rs) => some (retV vs, s2.add s2.h rs [])
          | none => none
        | none => none
      | none => none
    | none => none
  | none => none
theorem evFn_ok (hm : P.follows .mixedOrders = true) {inv : InvT} (hi : InvGood P inv) {L : Nat} {f : FuncId} {args : List V} {s s' : St} {v : V} (hv : evFn P inv L f args s = some (v, s')) : s.le s' ∧ FnOk P f args s.h v s'.h s'.R s'.W := by
  unfold evFn at hv
  split at hv
  · rename_i fn hf
    split at hv
    · rename_i c hb
      split at hv
      · cases hv
      · rename_i e f1 s1 hne hc
        split at hv
        · rename_i s2 ht
          split at hv
          · rename_i vs rs hr
            cases hv
            obtain ⟨l1, ok1⟩ := evCode_ok hm hi L none _ _ _ _ _ _ hc
            obtain ⟨l2, vf2, ok2⟩ := takeM_ok (P := P) _ _ _ ht
            have l3 := s2.le_add s2.h rs []
            have hsame : ∀ b, (s2.add s2.h rs []).W b → s2.W b := fun b hb => hb.imp (fun h => h) fun h => (by
              rcases mem_addF.1 h with h | h
              · simp at h
              · exact h)
            have ok1' := ok1.mono (St.le_trans l2 l3).R (St.le_trans l2 l3).W
            have vf2' : VF s1.h s2.h (s2.add s2.h rs []).W := vf2.mono l3.W
            refine ⟨St.le_trans l1 (St.le_trans l2 l3), ok1'.1.trans vf2', fun H σ w p hon => ?_⟩
            refine callsIn_of_wp_marks hf hb trivial ?_
            refine ok1'.2 H σ w _ _ (fun l h => by cases h) (p.fst vf2.n) ⟨initTm_rel hon fn.ntmps, rfl, fun b h => by cases h⟩ fun σ1 H1 a1 w1 hf1 hs1 => ?_
            have p1 := p.snd ok1'.1 hs1
            have post : LeavesInM (FW none) 0 P fn a1.tmps (fun e w' => ∃ x σ' H', e = .returned x ∧ VRel σ' (retV vs) x ∧ Step P s.h (s2.add s2.h rs []).h (s2.add s2.h rs []).W H H' σ σ' w w') a1.defers .returning w1 := by
              rw [hf1.mks]
              refine ok2 fn a1.tmps _ H1 σ1 w1 (p1.mono l3.R l3.W) hf1.on fun H2 w2 hs2 => ?_
              have hs2' : Step P s1.h s2.h (s2.add s2.h rs []).W H1 H2 σ1 σ1 w1 w2 := hs2.more vf2 p1 l3.W
              have hst := Step.trans p ok1'.1 vf2' hs1 hs2'
              have hread : ∀ b ∈ rs, H2 b = s2.h.get b := by
                intro b hb
                have p2 := p1.snd vf2' hs2'
                exact p2.agree b (evRes_lt _ _ _ hr b hb) (.inl (s2.add_R _ _ _ b hb))
              have hres := evRes_ok (P := P) hs2'.goes.inv hf1.tm (fun | .tmp t => pure (a1.tmps.getD t undef) | .cell a t => do loadVar t (← asAddr (a1.tmps.getD a undef))) (fun _ => rfl) (fun _ _ => rfl) _ _ _ hr hread
              have hret := retV_rel hres.1
              refine ⟨(retV vs).re σ1, ?_, _, σ1, H2, rfl, ⟨hret.1, rfl⟩, hst⟩
              simp only [results, Array.mapM_eq_mapM_toList, Sem.run_bind]
              simp only [map_eq_pure_bind, Sem.run_bind, Sem.run_pure]
              rw [(evRes_ok (P := P) hs2'.goes.inv hf1.tm _ (fun _ => rfl) (fun _ _ => rfl) _ _ _ hr hread).2]
              simp only [Result.andThen_ok]
              rw [hret.2]
            cases e with
            | norm => exact post
            | ret => exact post
            | exit id => exact absurd rfl (hne id)
          · cases hv
        · cases hv
      · cases hv
    · cases hv
  · cases hv

/-! ### rounds -/
def setPs (tm : Tm) : List Tmp → List V → Option Tm
  | [], [] => some tm
  | t :: ts, v :: vs => setPs (tm.set t v) ts vs
  | _, _ => none
theorem setPs_rel {σ : Ren} : ∀ (ps : List Tmp) (vs : List V) (tm tm' : Tm) (arr : Array Value), setPs tm ps vs = some tm' → TRel σ tm arr → V.onL σ vs → ps.length = vs.length ∧ TRel σ tm' ((ps.zip (V.reL σ vs)).foldl (fun tmps (x : Tmp × Value) => tmps.setIfInBounds x.1 x.2) arr)
  | [], [], tm, tm', arr, h, ht, _ => by cases h; exact ⟨rfl, ht⟩
  | t :: ts, v :: vs, tm, tm', arr, h, ht, hon => by
    have := setPs_rel ts vs _ _ _ h (ht.set t ⟨hon.1, rfl⟩) hon.2
    exact ⟨by simp [this.1], by simpa [V.reL] using this.2⟩
  | [], _ :: _, tm, tm', arr, h, _, _ => by cases h
  | _ :: _, [], tm, tm', arr, h, _, _ => by cases h
def Ex.jump : Ex → Option Code
  | .norm => none
  | .ret => some .ret
  | .exit id => some (.exit id)
def evYield (P : Program) (inv : InvT) (L : Nat) (l : Nat) (args : List V) (s : St) : Option (V × St) := match s.h.get l with
  | some (.loop lv) => match setPs lv.tmps lv.params args with
    | some tm => match evCode P inv L (some l) lv.assign ⟨tm, []⟩ (s.add s.h [l] []) with
      | some (.norm, f1, s1) => match s1.h.get l with
        | some (.loop lv1) => match lv1.state with
          | .ready => match evCode P inv L (some l) lv.body f1 (s1.add (s1.h.set l (.loop { lv1 with state := .busy })) [] [l]) with
            | some (e, f2, s2) => match s2.h.get l with
              | some (.loop lv2) => some (.bool e.jump.isNone, s2.add (s2.h.set l (.loop { lv2 with state := if e.jump.isNone then .ready else .done, pending := e.jump })) [] [l])
              | _ => none
            | none => none
          | _ => none
        | _ => none
      | _ => none
    | none => none
  | _ => none

theorem evYield_ok (hm : P.follows .mixedOrders = true) {inv : InvT} (hi : InvGood P inv) {L : Nat} {l : Nat} {args : List V} {s s' : St} {v : V} (hv : evYield P inv L l args s = some (v, s')) : s.le s' ∧ RoundOk P l args s.h v s'.h s'.R s'.W := by
  unfold evYield at hv
  split at hv
  · rename_i lv hg
    split at hv
    · rename_i tm htm
      split at hv
      · rename_i f1 s1 h1
        split at hv
        · rename_i lv1 hg1
          split at hv
          · rename_i hready
            split at hv
            · rename_i e f2 s2 h2
              split at hv
              · rename_i lv2 hg2
                cases hv
                have la := s.le_add s.h [l] []
                obtain ⟨l1, ok1⟩ := evCode_ok hm hi L (some l) _ _ _ _ _ _ h1
                have lb := s1.le_add (s1.h.set l (.loop { lv1 with state := .busy })) [] [l]
                obtain ⟨l2, ok2⟩ := evCode_ok hm hi L (some l) _ _ _ _ _ _ h2
                have lc := s2.le_add (s2.h.set l (.loop { lv2 with state := if e.jump.isNone then .ready else .done, pending := e.jump })) [] [l]
                generalize hend : s2.add (s2.h.set l (.loop { lv2 with state := if e.jump.isNone then .ready else .done, pending := e.jump })) [] [l] = s3 at lc
                have hs3 : s3.h = s2.h.set l (.loop { lv2 with state := if e.jump.isNone then .ready else .done, pending := e.jump }) := by rw [← hend]; rfl
                have hl0 := Heap.get_lt hg
                have hl1 := Heap.get_lt hg1
                have hl2 := Heap.get_lt hg2
                have hWc : s3.W l := by rw [← hend]; exact s2.add_W _ _ _ l (by simp)
                have le2 := lc
                have leb := St.le_trans l2 lc
                have le1 := St.le_trans lb leb
                have lea := St.le_trans l1 le1
                have ok1' := ok1.mono le1.R le1.W
                have ok2' := ok2.mono le2.R le2.W
                have vf0 : VF s.h s1.h s3.W := ok1'.1
                have vfb : VF s1.h (s1.h.set l (.loop { lv1 with state := .busy })) s3.W := vf_set hl1 _ hWc
                have vfe : VF s2.h s3.h s3.W := by rw [hs3]; exact vf_set hl2 _ hWc
                have vf2 : VF (s1.h.set l (.loop { lv1 with state := .busy })) s2.h s3.W := ok2'.1
                refine ⟨St.le_trans la lea, ((vf0.trans vfb).trans vf2).trans vfe, fun H σ w p hon his => ?_⟩
                have hRl : s3.R l := lea.R l (s.add_R _ _ _ l (by simp))
                have hHl : H l = some (.loop lv) := by rw [p.agree l hl0 (.inl hRl), hg]
                obtain ⟨loc, hloc, lp, hw, hrel⟩ := p.inv.rel l _ hHl rfl
                have hb : σ.b l = loc.blk := Ren.b_eq hloc
                have hps := setPs_rel (σ := σ) lv.params args lv.tmps tm lp.tmps htm hrel.tmps hon
                refine ⟨lp.fn, (lp.params.zip (V.reL σ args).toArray).foldl (fun tmps (x : Tmp × Value) => tmps.setIfInBounds x.1 x.2) lp.tmps, lp.assign, lp.body, ?_, ?_⟩
                · rw [hb]
                  have := run_yield (P := P) hw (args := (V.reL σ args).toArray) (by rw [hrel.params]; simp [V.reL_eq, hps.1])
                  exact this
                · rw [hb]
                  refine roundIn_of_wpIn trivial ?_
                  rw [hrel.assign, hrel.body]
                  have htr : TRel σ tm ((lp.params.zip (V.reL σ args).toArray).foldl (fun tmps (x : Tmp × Value) => tmps.setIfInBounds x.1 x.2) lp.tmps) := by
                    rw [hrel.params, ← Array.foldl_toList]
                    simpa using hps.2
                  have hF : (FW none).inRound loc.blk = FW ((some l).map σ.b) := by simp [Fence.inRound, FW, hb]
                  rw [hF]
                  have p1 := p.fst (h₁ := s1.h) (Nat.le_trans vfb.n (Nat.le_trans vf2.n vfe.n))
                  refine ok1'.2 H σ w _ _ (fun l' h => by cases h; exact his) p1 ⟨htr, rfl, fun b h => by cases h⟩ fun σ1 H1 a1 w1 hf1 hs1 => ?_
                  have p1' := p.snd vf0 hs1
                  -- the round begins
                  have hH1 : H1 l = some (.loop lv1) := by rw [p1'.agree l hl1 (.inr hWc), hg1]
                  obtain ⟨loc1, hloc1, lp1, hw1, hrel1⟩ := hs1.goes.inv.rel l _ hH1 rfl
                  have hlb1 : loc1 = loc := by have := hs1.goes.le l loc hloc; rw [hloc1] at this; cases this; rfl
                  subst hlb1
                  have hlt1 : loc1.blk < w1.heap.size := (Array.getElem?_eq_some_iff.1 hw1).1
                  have pb := p1'.fst (h₁ := s1.h.set l (.loop { lv1 with state := .busy })) (Nat.le_trans vf2.n vfe.n)
                  have hsb := step_set (w' := w1.putObj loc1.blk (.loop { lp1 with state := .busy })) pb hg1 rfl hWc hloc1 (putObj_size _ _ _) (fun k hk => World.putObj_heap_other hk) rfl rfl rfl (by
                    rw [World.putObj_heap_same hlt1]; exact ⟨_, rfl, { hrel1 with state := rfl }⟩)
                  refine ⟨_, run_beginRound hw1 (by rw [hrel1.state]; exact hready), ?_⟩
                  have pb' := p1'.snd vfb hsb
                  have hF1 : FW ((some l).map σ.b) = FW ((some l).map σ1.b) := by simp [hb, Ren.b_eq hloc1]
                  rw [hF1]
                  refine ok2'.2 _ σ1 _ a1 _ (fun l' h => by cases h; exact ⟨loc1, hloc1⟩) (pb'.fst vfe.n) hf1 fun σ2 H2 a2 w2 hf2 hs2 => ?_
                  have p2' := pb'.snd vf2 hs2
                  -- the round ends
                  have hH2 : H2 l = some (.loop lv2) := by rw [p2'.agree l hl2 (.inr hWc), hg2]
                  obtain ⟨loc2, hloc2, lp2, hw2, hrel2⟩ := hs2.goes.inv.rel l _ hH2 rfl
                  have hlb2 : loc2 = loc1 := by have := hs2.goes.le l loc1 hloc1; rw [hloc2] at this; cases this; rfl
                  subst hlb2
                  have hlt2 : loc2.blk < w2.heap.size := (Array.getElem?_eq_some_iff.1 hw2).1
                  rw [hs3] at p2'
                  have hse := step_set (w' := w2.putObj loc2.blk (.loop { lp2 with state := if e.jump.isNone then .ready else .done, pending := e.jump })) p2' hg2 rfl hWc hloc2 (putObj_size _ _ _) (fun k hk => World.putObj_heap_other hk) rfl rfl rfl (by
                    rw [World.putObj_heap_same hlt2]; exact ⟨_, rfl, { hrel2 with state := rfl, pending := rfl }⟩)
                  rw [← hs3] at hse
                  have hrun := run_endRound (P := P) e.jump hw2
                  have hst := Step.trans p ((vf0.trans vfb).trans vf2) vfe (Step.trans (p.fst vfe.n) (vf0.trans vfb) vf2 (Step.trans (p.fst (Nat.le_trans vf2.n vfe.n)) vf0 vfb hs1 hsb) hs2) hse
                  have fin : ∃ v' w', (Instr.endRound loc2.blk e.jump).run P w2 = .ok v' w' ∧ ∃ x σ' H', Ending.returned v' = .returned x ∧ VRel σ' (.bool e.jump.isNone) x ∧ Step P s.h s3.h s3.W H H' σ σ' w w' :=
                    ⟨_, _, hrun, _, σ2, _, rfl, ⟨trivial, rfl⟩, hst⟩
                  cases e with
                  | norm => exact fin
                  | ret => exact fin
                  | exit id => exact fin
              · cases hv
            · cases hv
          · cases hv
        · cases hv
      · cases hv
    · cases hv
  · cases hv

/-! ### the machine -/
/-- Calls that the machine takes from a table. -/
abbrev Hook := FuncId → List V → Heap → Option Pr
def HookOk (P : Program) (hk : Hook) : Prop := ∀ f args h pr, hk f args h = some pr → FnOk P f args h pr.v pr.h (· ∈ pr.r) (· ∈ pr.w)
def evInvH (P : Program) (hk : Hook) (L : Nat) : Nat → InvT
  | 0, _, _, _ => none
  | n + 1, .fn f, args, s => match hk f args s.h with
    | some pr => some (pr.v, s.add pr.h pr.r pr.w)
    | none => evFn P (evInvH P hk L n) L f args s
  | n + 1, .yield l, args, s => evYield P (evInvH P hk L n) L l args s

theorem evInvH_good (hm : P.follows .mixedOrders = true) {hk : Hook} (hh : HookOk P hk) (L : Nat) : ∀ n, InvGood P (evInvH P hk L n)
  | 0 => ⟨fun _ _ _ _ _ h => (by cases h), fun _ _ _ _ _ h => (by cases h), fun _ _ _ _ _ h => (by cases h)⟩
  | n + 1 => by
    have ih := evInvH_good hm hh L n
    have hfn : ∀ f args s v s', evInvH P hk L (n + 1) (.fn f) args s = some (v, s') → s.le s' ∧ FnOk P f args s.h v s'.h s'.R s'.W := by
      intro f args s v s' h
      simp only [evInvH] at h
      split at h
      · rename_i pr hp
        cases h
        exact ⟨s.le_add _ _ _, (hh f args s.h pr hp).mono (s.add_R _ _ _) (s.add_W _ _ _)⟩
      · exact evFn_ok hm ih h
    refine ⟨fun t args s v s' h => ?_, fun f args s v s' h => (hfn f args s v s' h).2, fun l args s v s' h => (evYield_ok hm ih h).2⟩
    cases t with
    | fn f => exact (hfn f args s v s' h).1
    | yield l => exact (evYield_ok hm ih h).1
def noHook : Hook := fun _ _ _ => none
theorem noHook_ok : HookOk P noHook := fun _ _ _ _ h => by cases h
def evInv (P : Program) (L : Nat) : Nat → InvT
  | 0, _, _, _ => none
  | n + 1, .fn f, args, s => evFn P (evInv P L n) L f args s
  | n + 1, .yield l, args, s => evYield P (evInv P L n) L l args s

theorem evInv_good (hm : P.follows .mixedOrders = true) (L : Nat) : ∀ n, InvGood P (evInv P L n)
  | 0 => ⟨fun _ _ _ _ _ h => (by cases h), fun _ _ _ _ _ h => (by cases h), fun _ _ _ _ _ h => (by cases h)⟩
  | n + 1 => by
    have ih := evInv_good hm L n
    refine ⟨fun t args s v s' h => ?_, fun f args s v s' h => (evFn_ok hm ih h).2, fun l args s v s' h => (evYield_ok hm ih h).2⟩
    cases t with
    | fn f => exact (evFn_ok hm ih h).1
    | yield l => exact (evYield_ok hm ih h).1

end Go.Vm
