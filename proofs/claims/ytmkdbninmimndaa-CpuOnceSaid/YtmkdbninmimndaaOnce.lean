/- CpuOnce returns true whatever the input: its walk (G6) lifted to the row. -/
import Derived.Test.YtmkdbninmimndaaRows
import Derived.WalkKit
import Derived.ProofKit
import Derived.OpenShut
import Derived.ChangeOld
import Derived.Below
import Derived.Test.YtmkdbninmimndaaV2
import Derived.Test.YtmkdbninmimndaaG6
import Derived.Test.YtmkdbninmimndaaGV
set_option linter.unusedVariables false
namespace Go.Proofs.Ytmkdbninmimndaa.cpuOnce
open Go Go.Vm Go.ChangeShapes Go.WideShapes Go.ChangeAt Go.RowKit
set_option maxRecDepth 100000
theorem own : ownKnob Try.prog.godebug = none := by kernel_rfl
theorem laidOut : laidOutB Try.prog = true := by kernel_rfl
theorem vt50 : Go.Vm.vtOk Try.prog 30 50 vtInstr = true := by kernel_rfl
theorem vt28 : Go.Vm.vtOk Try.prog 30 28 vtState = true := by kernel_rfl
theorem walk (a2 : Int) (w2 : (Lit.int .i64 a2).wf = true) (a3 : Int) (w3 : (Lit.int .i64 a3).wf = true) (c0 c1 : Array Value) (w : World) (h0 : Go.Vm.VIs (Go.Vm.heap0 w) vtInstr (c0.toList.map (Go.Vm.vOf1 w))) (h1 : Go.Vm.VIs (Go.Vm.heap0 w) vtState (c1.toList.map (Go.Vm.vOf1 w))) :
    Calls Try.prog 4 #[.agg c0, .agg c1, .int .i64 a2, .int .i64 a3] w fun e w' => e = .returned (.bool true) ∧ Below w.heap.size w w' := by
  obtain ⟨op, d, x, b, m, e⟩ := instr_of h0
  obtain ⟨rs, pc, e1⟩ := state_of h1
  have key := once_law (rs := rs) (pc := pc) (H := Go.Vm.heap0 w) op d x b m a2 a3
  refine Go.Vm.law_open (M := ⟨Try.prog, false⟩) (R := fun _ => True) (show Go.Vm.SF _ _ [.agg (c0.toList.map (Go.Vm.vOf1 w)), .agg (c1.toList.map (Go.Vm.vOf1 w)), .int .i64 a2, .int .i64 a3] _ _ _ _ from ?_)
  rw [e, e1]
  have e2 : WH (Go.Vm.heap0 w) = fun b => w.heap.size ≤ b := by funext b; simp only [WH, Go.Vm.heap0_n]
  rw [e2] at key
  exact key

set_option maxRecDepth 100000 in
theorem lifted (os : Os) (started : os.Started) (H : Type) (enc : TypeId × Value → H) :
    ReturnsInHanded {} Try.checked os 4 .any (Rows.cpuOnceSpec.pre6 enc Try.prog Try.f4 Rows.cpuOnceRow.domain false) (Rows.cpuOnceSpec.post enc Try.prog Try.f4 false true false false) := by
  refine returnsInHanded_of_change (C := Try.checked) own started (by kernel_rfl) Try.func4
    (ChangeSpec.witness6 (enc := enc) (C := Try.checked) false ⟨#[], #[.agg #[.int .i64 0, .int .i64 0, .int .i64 0, .int .i64 0, .int .i64 0], .agg #[.int .u32 0, .int .u32 0, .int .u32 0, .int .u32 0, .int .u32 0, .int .u32 0, .int .u32 0, .int .u32 0, .int .u32 0, .int .u32 0, .int .u32 0, .int .u32 0, .int .u32 0, .int .u32 0, .int .u32 0, .int .u32 0, .int .u32 0], .int .i64 0, .int .i64 0], []⟩ 8 (by kernel_rfl) (by kernel_rfl) (by kernel_rfl) (by kernel_rfl)) ?_
  intro W base args ds gs before hval0 hW hcnd _
  have hval : ∀ (j : Nat) t v, Try.f4.params[j]? = some t → args[j]? = some v → Value.okWide Try.prog W .any base t v := hval0
  have hW' := hW
  obtain ⟨p, q, hA0, hV, rfl, hfz, hnd⟩ := hW
  have hA : DataW.TrodAll enc Try.prog W 0 (fun _ => true) true Try.f4.params.toList args.toList ds p := hA0
  rw [Try.params4] at hA hval
  obtain ⟨v0, vs0, d0, ds0, p0, q0, hargs, rfl, rfl, h0, r0⟩ := trodAll_cons hA
  obtain ⟨v1, vs1, d1, ds1, p1, q1, rfl, rfl, rfl, h1, r1⟩ := trodAll_cons r0
  obtain ⟨v2, vs2, d2, ds2, p2, q2, rfl, rfl, rfl, h2, r2⟩ := trodAll_cons r1
  obtain ⟨v3, vs3, d3, ds3, p3, q3, rfl, rfl, rfl, h3, r3⟩ := trodAll_cons r2
  obtain ⟨rfl, rfl, rfl⟩ := trodAll_nil r3
  obtain rfl : args = #[v0, v1, v2, v3] := by cases args; simp_all
  obtain ⟨rfl, rfl⟩ := trodVars_none hV
  obtain ⟨c0, rfl, _⟩ := okWide_struct Try.underlying50 (hval 0 50 v0 rfl rfl)
  obtain ⟨c1, rfl, _⟩ := okWide_struct Try.underlying28 (hval 1 28 v1 rfl rfl)
  obtain ⟨a2, rfl, rfl, rfl, w2⟩ := open_int Try.underlying3 (hval 2 3 v2 rfl rfl) h2
  obtain ⟨a3, rfl, rfl, rfl, w3⟩ := open_int Try.underlying3 (hval 3 3 v3 rfl rfl) h3
  have k0 := h0
  have lt0 : ∀ x ∈ p0, x.block < W.heap.size := by obtain ⟨m, hm⟩ := k0; exact DataW.trod_lt m _ _ _ hm
  have vis0 : Go.Vm.VIs (Go.Vm.heap0 W) vtInstr (c0.toList.map (Go.Vm.vOf1 W)) := by
    obtain ⟨fuel, hf⟩ := h0
    exact Go.Vm.trod_vis fuel 30 50 vtInstr _ _ vt50 hf
  have k1 := h1
  have lt1 : ∀ x ∈ p1, x.block < W.heap.size := by obtain ⟨m, hm⟩ := k1; exact DataW.trod_lt m _ _ _ hm
  have vis1 : Go.Vm.VIs (Go.Vm.heap0 W) vtState (c1.toList.map (Go.Vm.vOf1 W)) := by
    obtain ⟨fuel, hf⟩ := h1
    exact Go.Vm.trod_vis fuel 30 28 vtState _ _ vt28 hf
  clear hA0 hval0
  refine (walk a2 w2 a3 w3 _ _ W vis0 vis1).mono fun e W' ⟨he, bel⟩ => ?_
  subst he
  exact ⟨_, rfl, _, _, _, [], _, [], hW', trodAll_mk1 (shut_bool Try.underlying4 _), (trodAll_cons_mk (Below.trod laidOut (by kernel_rfl) (of_decide_eq_true (by kernel_rfl)) k0 bel lt0) (trodAll_cons_mk (Below.trod laidOut (by kernel_rfl) (of_decide_eq_true (by kernel_rfl)) k1 bel lt1) (trodAll_cons_mk (shut_int Try.underlying3 w2) (trodAll_cons_mk (shut_int Try.underlying3 w3) trodAll_mk0)))), rfl, bel.frame _, fun h => by cases h⟩

theorem over : Rows.cpuOnceRow.holds Try.pinned (OpenSpec.ofChange Rows.cpuOnceSpec) :=
  OpenClaim.holds_of_wide 4 Try.f4 rfl rfl rfl rfl rfl rfl rfl ⟨rfl, rfl, rfl, rfl, rfl⟩ rfl rfl rfl rfl rfl (by kernel_rfl) Try.func4 (by kernel_rfl)
    (of_decide_eq_true (by kernel_rfl)) (by unfold Func.isWrapper; first | (rw [if_pos (by decide +kernel)]; kernel_rfl) | (rw [if_neg (by decide +kernel)]; exact ⟨rfl, rfl⟩))
    (fun os started H enc _ => lifted os started H enc)

theorem proved : Rows.CpuOnceSaid :=
  over
#print axioms proved
end Go.Proofs.Ytmkdbninmimndaa.cpuOnce
