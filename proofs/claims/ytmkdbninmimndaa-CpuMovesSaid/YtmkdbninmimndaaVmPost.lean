/- From 'of what lay there nothing has turned' to what the row asks of the world behind the call. -/
import Derived.Test.YtmkdbninmimndaaVmR
import Derived.ChangeSame
set_option linter.unusedVariables false
set_option linter.unusedSimpArgs false
namespace Go.Vm
open Go.RowKit Go.WideShapes Go.ChangeShapes
variable {H : Type} {enc : TypeId × Value → H} {P : Program}

/-- The blocks that lay there read, and are marked, as they did. -/
def Stood (W W' : World) : Prop := ∀ k, k < W.heap.size → W'.heap[k]? = W.heap[k]?
theorem Stood.mark {W W' : World} (h : Stood W W') {b off : Nat} (hb : b < W.heap.size) : W'.frozen? ⟨b, off, none⟩ = W.frozen? ⟨b, off, none⟩ := by
  unfold World.frozen?
  rw [show W'.heap[(⟨b, off, none⟩ : Addr).block]? = W.heap[(⟨b, off, none⟩ : Addr).block]? from h b hb]

theorem row_post {f : Func} {s : ChangeSpec} {apart fresh handsOn again : Bool} {W W' : World} {args : Array Value} {v : Value} {ds gs : List (DataW H)} {was pa pv : List MemPlace}
    (whole : DataW.Whole enc P f.params.toList s.vars apart W args.toList ds gs was) (below : Below W.heap.size W W')
    (answers : ∀ (b : Nat) (sp : Nat → Bool) (hd : Bool), DataW.TrodAll enc P W' b sp hd f.resultTypes.toList (v.resultList f.resultTypes.size) (s.fn H (ds ++ gs)).results [])
    (handed : ∀ sp : Nat → Bool, (∀ p ∈ was, sp p.block = true) → DataW.TrodAll enc P W' 0 sp true f.params.toList args.toList (s.fn H (ds ++ gs)).args pa)
    (globals : ∀ sp : Nat → Bool, (∀ p ∈ was, sp p.block = true) → DataW.TrodVars enc P W' sp s.vars (s.fn H (ds ++ gs)).vars pv) (parts : was = pa ++ pv)
    (wide : ∀ (j : Nat) (t : TypeId) (r : Value), f.resultTypes[j]? = some t → (v.resultList f.resultTypes.size)[j]? = some r → Value.okWide P W' .any 0 t r) :
    s.post enc P f apart fresh handsOn again W args v W' := by
  subst parts
  have stood : Stood W W' := below.block
  have inOld : ∀ p ∈ pa ++ pv, decide (p.block < W.heap.size) = true := fun p hp => decide_eq_true (whole.lt p hp)
  have atOld : ∀ p ∈ pa ++ pv, (fun b => decide (b < W.heap.size)) p.block = true := inOld
  have again' : [] ++ pa ++ pv = pa ++ pv := rfl
  refine ⟨ds, gs, pa ++ pv, [], pa, pv, whole, answers _ _ _, handed _ atOld, globals _ atOld, World.keptBut_mono (fun p hp => ⟨hp, .inr ?_⟩) (below.frame (· ∈ pa ++ pv)), fun _ => ?_⟩
  · exact List.mem_append.1 hp
  · obtain ⟨_, _, _, _, _, marks, single⟩ := whole
    refine ⟨wide, _, _, ([] ++ pa) ++ pv, ⟨[] ++ pa, pv, trodAll_append (handed _ fun _ _ => rfl) (answers _ _ _), globals _ fun _ _ => rfl, rfl, fun b off hp => ?_, fun ha => single ha⟩, fun p hp _ => hp⟩
    have hp' : MemPlace.cell b off ∈ pa ++ pv := hp
    have hlt : b < W.heap.size := of_decide_eq_true (inOld _ hp')
    rw [stood.mark hlt]
    exact marks b off hp'
end Go.Vm
