/- CpuParts returns true whatever the input: its walk (G4) lifted to the row. -/
import Derived.Test.YtmkdbninmimndaaRows
import Derived.WalkKit
import Derived.ProofKit
import Derived.OpenShut
import Derived.ChangeOld
import Derived.Below
import Derived.Test.YtmkdbninmimndaaV2
import Derived.Test.YtmkdbninmimndaaG4
import Derived.Test.YtmkdbninmimndaaGV
set_option linter.unusedVariables false
namespace Go.Proofs.Ytmkdbninmimndaa.cpuParts
open Go Go.Vm Go.ChangeShapes Go.WideShapes Go.ChangeAt Go.RowKit
set_option maxRecDepth 100000
theorem own : ownKnob Try.prog.godebug = none := by kernel_rfl
theorem laidOut : laidOutB Try.prog = true := by kernel_rfl
theorem vt30 : Go.Vm.vtOk Try.prog 30 30 vtStart = true := by kernel_rfl
theorem walk (a1 : Int) (w1 : (Lit.int .i64 a1).wf = true) (c0 : Array Value) (w : World) (h0 : Go.Vm.VIs (Go.Vm.heap0 w) vtStart (c0.toList.map (Go.Vm.vOf1 w))) :
    Calls Try.prog 6 #[.agg c0, .int .i64 a1] w fun e w' => e = .returned (.bool true) ∧ Below w.heap.size w w' := by
  obtain ⟨vC, vB, vR, rs, pc, n, m, lB, Q, q, e, hC, hB, bB, hR, hQ, hint, _, _⟩ := start_of h0
  have key := parts_law (rs := rs) (pc := pc) hC hB bB hR hQ hint n a1
  refine Go.Vm.law_open (M := ⟨Try.prog, false⟩) (R := fun _ => True) (show Go.Vm.SF _ _ [.agg (c0.toList.map (Go.Vm.vOf1 w)), .int .i64 a1] _ _ _ _ from ?_)
  rw [e]
  have e2 : WH (Go.Vm.heap0 w) = fun b => w.heap.size ≤ b := by funext b; simp only [WH, Go.Vm.heap0_n]
  rw [e2] at key
  exact key

set_option maxRecDepth 100000 in
theorem lifted (os : Os) (started : os.Started) (H : Type) (enc : TypeId × Value → H) :
    ReturnsInHanded {} Try.checked os 6 .any (Rows.cpuPartsSpec.pre6 enc Try.prog Try.f6 Rows.cpuPartsRow.domain false) (Rows.cpuPartsSpec.post enc Try.prog Try.f6 false true false false) := by
  refine returnsInHanded_of_change (C := Try.checked) own started (by kernel_rfl) Try.func6
    (ChangeSpec.witness6 (enc := enc) (C := Try.checked) false ⟨#[], #[.agg #[.slice none 0 0, .slice none 0 0, .slice none 0 0, .int .u32 0, .int .u32 0, .int .u32 0, .int .u32 0, .int .u32 0, .int .u32 0, .int .u32 0, .int .u32 0, .int .u32 0, .int .u32 0, .int .u32 0, .int .u32 0, .int .u32 0, .int .u32 0, .int .u32 0, .int .u32 0, .int .u32 0, .int .i64 0], .int .i64 0], []⟩ 8 (by kernel_rfl) (by kernel_rfl) (by kernel_rfl) (by kernel_rfl)) ?_
  intro W base args ds gs before hval0 hW hcnd _
  have hval : ∀ (j : Nat) t v, Try.f6.params[j]? = some t → args[j]? = some v → Value.okWide Try.prog W .any base t v := hval0
  have hW' := hW
  obtain ⟨p, q, hA0, hV, rfl, hfz, hnd⟩ := hW
  have hA : DataW.TrodAll enc Try.prog W 0 (fun _ => true) true Try.f6.params.toList args.toList ds p := hA0
  rw [Try.params6] at hA hval
  obtain ⟨v0, vs0, d0, ds0, p0, q0, hargs, rfl, rfl, h0, r0⟩ := trodAll_cons hA
  obtain ⟨v1, vs1, d1, ds1, p1, q1, rfl, rfl, rfl, h1, r1⟩ := trodAll_cons r0
  obtain ⟨rfl, rfl, rfl⟩ := trodAll_nil r1
  obtain rfl : args = #[v0, v1] := by cases args; simp_all
  obtain ⟨rfl, rfl⟩ := trodVars_none hV
  obtain ⟨c0, rfl, _⟩ := okWide_struct Try.underlying30 (hval 0 30 v0 rfl rfl)
  obtain ⟨a1, rfl, rfl, rfl, w1⟩ := open_int Try.underlying3 (hval 1 3 v1 rfl rfl) h1
  have k0 := h0
  have lt0 : ∀ x ∈ p0, x.block < W.heap.size := by obtain ⟨m, hm⟩ := k0; exact DataW.trod_lt m _ _ _ hm
  have vis0 : Go.Vm.VIs (Go.Vm.heap0 W) vtStart (c0.toList.map (Go.Vm.vOf1 W)) := by
    obtain ⟨fuel, hf⟩ := h0
    exact Go.Vm.trod_vis fuel 30 30 vtStart _ _ vt30 hf
  clear hA0 hval0
  refine (walk a1 w1 _ W vis0).mono fun e W' ⟨he, bel⟩ => ?_
  subst he
  exact ⟨_, rfl, _, _, _, [], _, [], hW', trodAll_mk1 (shut_bool Try.underlying4 _), (trodAll_cons_mk (Below.trod laidOut (by kernel_rfl) (of_decide_eq_true (by kernel_rfl)) k0 bel lt0) (trodAll_cons_mk (shut_int Try.underlying3 w1) trodAll_mk0)), rfl, bel.frame _, fun h => by cases h⟩

theorem over : Rows.cpuPartsRow.holds Try.pinned (OpenSpec.ofChange Rows.cpuPartsSpec) :=
  OpenClaim.holds_of_wide 6 Try.f6 rfl rfl rfl rfl rfl rfl rfl ⟨rfl, rfl, rfl, rfl, rfl⟩ rfl rfl rfl rfl rfl (by kernel_rfl) Try.func6 (by kernel_rfl)
    (of_decide_eq_true (by kernel_rfl)) (by unfold Func.isWrapper; first | (rw [if_pos (by decide +kernel)]; kernel_rfl) | (rw [if_neg (by decide +kernel)]; exact ⟨rfl, rfl⟩))
    (fun os started H enc _ => lifted os started H enc)

theorem proved : Rows.CpuPartsSaid :=
  over
#print axioms proved
end Go.Proofs.Ytmkdbninmimndaa.cpuParts
