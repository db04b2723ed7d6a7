/- PortsOrder returns true whatever the input: its walk (G9) lifted to the row. -/
import Derived.Test.YtmimialblhlklaaRows
import Derived.WalkKit
import Derived.ProofKit
import Derived.OpenShut
import Derived.ChangeOld
import Derived.Below
import Derived.Test.YtmimialblhlklaaV2
import Derived.Test.YtmimialblhlklaaV
set_option linter.unusedVariables false
set_option linter.unusedSimpArgs false
set_option linter.unusedSimpArgs false
namespace Go.Proofs.Ytmimialblhlklaa.portsOrder
open Go.ChangeShapes Go.WideShapes Go.ChangeAt Go.RowKit
set_option linter.unusedVariables false
set_option linter.unusedSimpArgs false
set_option maxRecDepth 100000
theorem own : ownKnob Try.prog.godebug = none := by kernel_rfl
theorem laidOut : laidOutB Try.prog = true := by kernel_rfl
theorem vt22 : Go.Vm.vtOk Try.prog 30 22 (.slice vtTe) = true := by kernel_rfl
theorem vt23 : Go.Vm.vtOk Try.prog 30 23 (.slice (.slice (.int .u8))) = true := by kernel_rfl
theorem vt24 : Go.Vm.vtOk Try.prog 30 24 (.slice .bool) = true := by kernel_rfl
theorem walk (v1 v2 v3 : Value) (w : World) (h1 : Go.Vm.VIs (Go.Vm.heap0 w) (.slice vtTe) [Go.Vm.vOf w v1]) (h2 : Go.Vm.VIs (Go.Vm.heap0 w) (.slice (.slice (.int .u8))) [Go.Vm.vOf w v2]) (h3 : Go.Vm.VIs (Go.Vm.heap0 w) (.slice .bool) [Go.Vm.vOf w v3]) :
    Calls Try.prog 3 #[v1, v2, v3] w fun e w' => e = .returned (.bool true) ∧ Below w.heap.size w w' := by
  obtain ⟨z1, e1, hs1⟩ := h1
  obtain ⟨L, hL⟩ := tests_of hs1
  cases e1
  obtain ⟨z2, e2, hs2⟩ := h2
  obtain ⟨ps, hps⟩ := packs_of hs2
  cases e2
  obtain ⟨z3, e3, hs3⟩ := h3
  obtain ⟨bs, hbs⟩ := bools_of hs3
  cases e3
  exact Go.Vm.law_open (M := ⟨Try.prog, true⟩) (R := fun _ => True) (show Go.Vm.SF _ _ [_, _, _] _ _ _ _ from order_law hL hps hbs (fun _ => trivial))

set_option maxRecDepth 100000 in
theorem lifted (os : Os) (started : os.Started) (H : Type) (enc : TypeId × Value → H) :
    ReturnsInHanded {} Try.checked os 3 .any (Rows.portsOrderSpec.pre6 enc Try.prog Try.f3 Rows.portsOrderRow.domain false) (Rows.portsOrderSpec.post enc Try.prog Try.f3 false true false false) := by
  refine returnsInHanded_of_change (C := Try.checked) own started (by kernel_rfl) Try.func3
    (ChangeSpec.witness6 (enc := enc) (C := Try.checked) false ⟨#[], #[.slice none 0 0, .slice none 0 0, .slice none 0 0], []⟩ 8 (by kernel_rfl) (by kernel_rfl) (by kernel_rfl) (by kernel_rfl)) ?_
  intro W base args ds gs before hval0 hW hcnd _
  have hval : ∀ (j : Nat) t v, Try.f3.params[j]? = some t → args[j]? = some v → Value.okWide Try.prog W .any base t v := hval0
  have hW' := hW
  obtain ⟨p, q, hA0, hV, rfl, hfz, hnd⟩ := hW
  have hA : DataW.TrodAll enc Try.prog W 0 (fun _ => true) true Try.f3.params.toList args.toList ds p := hA0
  rw [Try.params3] at hA hval
  obtain ⟨v0, vs0, d0, ds0, p0, q0, hargs, rfl, rfl, h0, r0⟩ := trodAll_cons hA
  obtain ⟨v1, vs1, d1, ds1, p1, q1, rfl, rfl, rfl, h1, r1⟩ := trodAll_cons r0
  obtain ⟨v2, vs2, d2, ds2, p2, q2, rfl, rfl, rfl, h2, r2⟩ := trodAll_cons r1
  obtain ⟨rfl, rfl, rfl⟩ := trodAll_nil r2
  obtain rfl : args = #[v0, v1, v2] := by cases args; simp_all
  obtain ⟨rfl, rfl⟩ := trodVars_none hV
  obtain ⟨s0, l0, c0, rfl⟩ := okWide_slice Try.underlying22 (hval 0 22 v0 rfl rfl)
  obtain ⟨s1, l1, c1, rfl⟩ := okWide_slice Try.underlying23 (hval 1 23 v1 rfl rfl)
  obtain ⟨s2, l2, c2, rfl⟩ := okWide_slice Try.underlying24 (hval 2 24 v2 rfl rfl)
  have k0 := h0
  have lt0 : ∀ x ∈ p0, x.block < W.heap.size := by obtain ⟨m, hm⟩ := k0; exact DataW.trod_lt m _ _ _ hm
  have vis0 : Go.Vm.VIs (Go.Vm.heap0 W) (.slice vtTe) [Go.Vm.vOf W (.slice s0 l0 c0)] := by
    obtain ⟨fuel, hf⟩ := h0
    have := Go.Vm.trod_vis fuel 30 22 (.slice vtTe) _ _ vt22 hf
    rw [Go.Vm.vOf_one W _ (fun c e => by cases e)]
    exact this
  have k1 := h1
  have lt1 : ∀ x ∈ p1, x.block < W.heap.size := by obtain ⟨m, hm⟩ := k1; exact DataW.trod_lt m _ _ _ hm
  have vis1 : Go.Vm.VIs (Go.Vm.heap0 W) (.slice (.slice (.int .u8))) [Go.Vm.vOf W (.slice s1 l1 c1)] := by
    obtain ⟨fuel, hf⟩ := h1
    have := Go.Vm.trod_vis fuel 30 23 (.slice (.slice (.int .u8))) _ _ vt23 hf
    rw [Go.Vm.vOf_one W _ (fun c e => by cases e)]
    exact this
  have k2 := h2
  have lt2 : ∀ x ∈ p2, x.block < W.heap.size := by obtain ⟨m, hm⟩ := k2; exact DataW.trod_lt m _ _ _ hm
  have vis2 : Go.Vm.VIs (Go.Vm.heap0 W) (.slice .bool) [Go.Vm.vOf W (.slice s2 l2 c2)] := by
    obtain ⟨fuel, hf⟩ := h2
    have := Go.Vm.trod_vis fuel 30 24 (.slice .bool) _ _ vt24 hf
    rw [Go.Vm.vOf_one W _ (fun c e => by cases e)]
    exact this
  clear hA0 hval0
  refine (walk  _ _ _ W vis0 vis1 vis2).mono fun e W' ⟨he, bel⟩ => ?_
  subst he
  exact ⟨_, rfl, _, _, _, [], _, [], hW', trodAll_mk1 (shut_bool Try.underlying4 _), (trodAll_cons_mk (Below.trod laidOut (by kernel_rfl) (of_decide_eq_true (by kernel_rfl)) k0 bel lt0) (trodAll_cons_mk (Below.trod laidOut (by kernel_rfl) (of_decide_eq_true (by kernel_rfl)) k1 bel lt1) (trodAll_cons_mk (Below.trod laidOut (by kernel_rfl) (of_decide_eq_true (by kernel_rfl)) k2 bel lt2) trodAll_mk0))), rfl, bel.frame _, fun h => by cases h⟩

theorem over : Rows.portsOrderRow.holds Try.pinned (OpenSpec.ofChange Rows.portsOrderSpec) :=
  OpenClaim.holds_of_wide 3 Try.f3 rfl rfl rfl rfl rfl rfl rfl ⟨rfl, rfl, rfl, rfl, rfl⟩ rfl rfl rfl rfl rfl (by kernel_rfl) Try.func3 (by kernel_rfl)
    (of_decide_eq_true (by kernel_rfl)) (by unfold Func.isWrapper; first | (rw [if_pos (by decide +kernel)]; kernel_rfl) | (rw [if_neg (by decide +kernel)]; exact ⟨rfl, rfl⟩))
    (fun os started H enc _ => lifted os started H enc)

theorem proved : Rows.PortsOrderSaid :=
  over
#print axioms proved
end Go.Proofs.Ytmimialblhlklaa.portsOrder
