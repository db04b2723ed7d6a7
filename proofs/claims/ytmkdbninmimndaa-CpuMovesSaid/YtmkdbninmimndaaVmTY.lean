/- The rounds of a range over a function, proved from the loop's own code. -/
import Derived.Test.YtmkdbninmimndaaVmV
set_option linter.unusedVariables false
set_option linter.unusedSimpArgs false
namespace Go.Vm
variable {P : Program}

def YEnd (l : Nat) (Q : V → Heap → Prop) (e : Ex) (f : Fr) (h : Heap) : Prop :=
  ∃ lv, h.get l = some (.loop lv) ∧ Q (.bool e.jump.isNone) (h.set l (.loop { lv with state := if e.jump.isNone then .ready else .done, pending := e.jump }))
def YMid (M : MP) (R W : Set') (l : Nat) (body : Code) (Q : V → Heap → Prop) (e : Ex) (f : Fr) (h : Heap) : Prop :=
  e = .norm ∧ ∃ lv, h.get l = some (.loop lv) ∧ lv.state = .ready ∧ SC M R W (some l) body f (h.set l (.loop { lv with state := .busy })) (YEnd l Q)

theorem SY.of_body (hm : P.follows .mixedOrders = true) {l : Nat} {args : List V} {h : Heap} {R W : Set'} {Q : V → Heap → Prop} {lv : Loopv} {tm : Tm} (hg : h.get l = some (.loop lv)) (hR : R l) (hW : W l)
    (htm : setPs lv.tmps lv.params args = some tm) (ha : SC ⟨P, true⟩ R W (some l) lv.assign ⟨tm, []⟩ h (YMid ⟨P, true⟩ R W l lv.body Q)) : SY ⟨P, true⟩ l args h R W Q := by
  intro H σ w p hon his
  have ok1 := SC.okD hm _ _ _ _ ha
  have hl0 := Heap.get_lt hg
  have hHl : H l = some (.loop lv) := by rw [p.agree l hl0 (.inl hR), hg]
  obtain ⟨loc, hloc, lp, hw, hrel⟩ := p.inv.rel l _ hHl rfl
  have hb : σ.b l = loc.blk := Ren.b_eq hloc
  have hps := setPs_rel (σ := σ) lv.params args lv.tmps tm lp.tmps htm hrel.tmps hon
  refine ⟨lp.fn, (lp.params.zip (V.reL σ args).toArray).foldl (fun tmps (x : Tmp × Value) => tmps.setIfInBounds x.1 x.2) lp.tmps, lp.assign, lp.body, ?_, ?_⟩
  · rw [hb]
    have := run_yield (P := P) hw (args := (V.reL σ args).toArray) (by rw [hrel.params]; simp [V.reL_eq, hps.1])
    exact this
  · rw [hb]
    refine roundIn_of_wpIn trivial ?_
    rw [hrel.assign, hrel.body]
    have htr : TRel σ tm ((lp.params.zip (V.reL σ args).toArray).foldl (fun tmps (x : Tmp × Value) => tmps.setIfInBounds x.1 x.2) lp.tmps) := by
      rw [hrel.params, ← Array.foldl_toList]
      simpa using hps.2
    have hF : (FW none).inRound loc.blk = FW ((some l).map σ.b) := by simp [Fence.inRound, FW, hb]
    rw [hF]
    refine ok1 H σ w _ _ (fun l' h => by cases h; exact his) p ⟨htr, rfl, fun b h => by cases h⟩ fun e f1 h1 σ1 H1 a1 w1 q1 vf1 hf1 hs1 => ?_
    obtain ⟨rfl, lv1, hg1, hready, hbody⟩ := q1
    have ok2 := SC.okD hm _ _ _ _ hbody
    have p1 := p.snd vf1 hs1
    have hl1 := Heap.get_lt hg1
    -- the round begins
    have hH1 : H1 l = some (.loop lv1) := by rw [p1.agree l hl1 (.inr hW), hg1]
    obtain ⟨loc1, hloc1, lp1, hw1, hrel1⟩ := hs1.goes.inv.rel l _ hH1 rfl
    have hlb1 : loc1 = loc := by have := hs1.goes.le l loc hloc; rw [hloc1] at this; cases this; rfl
    subst hlb1
    have hlt1 : loc1.blk < w1.heap.size := (Array.getElem?_eq_some_iff.1 hw1).1
    have vfb : VF h1 (h1.set l (.loop { lv1 with state := .busy })) W := vf_set hl1 _ hW
    have hsb := step_set (w' := w1.putObj loc1.blk (.loop { lp1 with state := .busy })) (p1.to (h' := h1.set l (.loop { lv1 with state := .busy }))) hg1 rfl hW hloc1 (putObj_size _ _ _) (fun k hk => World.putObj_heap_other hk) rfl rfl rfl (by
      rw [World.putObj_heap_same hlt1]; exact ⟨_, rfl, { hrel1 with state := rfl }⟩)
    refine ⟨_, run_beginRound hw1 (by rw [hrel1.state]; exact hready), ?_⟩
    have pb := p1.snd vfb hsb
    have hF1 : FW ((some l).map σ.b) = FW ((some l).map σ1.b) := by simp [hb, Ren.b_eq hloc1]
    rw [hF1]
    refine ok2 _ σ1 _ a1 _ (fun l' h => by cases h; exact ⟨loc1, hloc1⟩) pb hf1 fun e f2 h2 σ2 H2 a2 w2 q2 vf2 hf2 hs2 => ?_
    obtain ⟨lv2, hg2, hq⟩ := q2
    have p2 := pb.snd vf2 hs2
    have hl2 := Heap.get_lt hg2
    -- the round ends
    have hH2 : H2 l = some (.loop lv2) := by rw [p2.agree l hl2 (.inr hW), hg2]
    obtain ⟨loc2, hloc2, lp2, hw2, hrel2⟩ := hs2.goes.inv.rel l _ hH2 rfl
    have hlb2 : loc2 = loc1 := by have := hs2.goes.le l loc1 hloc1; rw [hloc2] at this; cases this; rfl
    subst hlb2
    have hlt2 : loc2.blk < w2.heap.size := (Array.getElem?_eq_some_iff.1 hw2).1
    have vfe : VF h2 (h2.set l (.loop { lv2 with state := if e.jump.isNone then .ready else .done, pending := e.jump })) W := vf_set hl2 _ hW
    have hse := step_set (w' := w2.putObj loc2.blk (.loop { lp2 with state := if e.jump.isNone then .ready else .done, pending := e.jump })) (p2.to (h' := h2.set l (.loop { lv2 with state := if e.jump.isNone then .ready else .done, pending := e.jump }))) hg2 rfl hW hloc2 (putObj_size _ _ _) (fun k hk => World.putObj_heap_other hk) rfl rfl rfl (by
      rw [World.putObj_heap_same hlt2]; exact ⟨_, rfl, { hrel2 with state := rfl, pending := rfl }⟩)
    have hrun := run_endRound (P := P) e.jump hw2
    have hvf := ((vf1.trans vfb).trans vf2).trans vfe
    have hst := Step.trans p.to ((vf1.trans vfb).trans vf2) vfe (Step.trans p.to (vf1.trans vfb) vf2 (Step.trans p.to vf1 vfb hs1 hsb) hs2) hse
    have fin : ∃ v' w', (Instr.endRound loc2.blk e.jump).run P w2 = .ok v' w' ∧ ∃ x σ' H' v h', Q v h' ∧ VF h h' W ∧ Ending.returned v' = .returned x ∧ VRel σ' v x ∧ Step P h h' W H H' σ σ' w w' :=
      ⟨_, _, hrun, _, σ2, _, .bool e.jump.isNone, _, hq, hvf, rfl, ⟨trivial, rfl⟩, hst⟩
    cases e with
    | norm => exact fin
    | ret => exact fin
    | exit id => exact fin

end Go.Vm
