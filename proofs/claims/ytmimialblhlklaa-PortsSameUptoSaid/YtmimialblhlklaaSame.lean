/- PortsSame returns true where what it reads is small: its walk (RO) lifted to the row. -/
import Derived.Test.YtmimialblhlklaaRows
import Derived.WalkKit
import Derived.ProofKit
import Derived.OpenShut
import Derived.ChangeOld
import Derived.Below
import Derived.JoinedCond
import Derived.Test.YtmimialblhlklaaV2
import Derived.Test.YtmimialblhlklaaRV
import Derived.Test.YtmimialblhlklaaUpto
set_option linter.unusedVariables false
namespace Go.Proofs.Ytmimialblhlklaa.portsSame
open Go.ChangeShapes Go.WideShapes Go.ChangeAt Go.RowKit

set_option maxRecDepth 100000
theorem own : ownKnob Try.prog.godebug = none := by kernel_rfl
theorem laidOut : laidOutB Try.prog = true := by kernel_rfl
theorem vt46 : Go.Vm.vtOk Try.prog 30 46 (.slice vtStepU) = true := by kernel_rfl
theorem vt36 : Go.Vm.vtOk Try.prog 30 36 (.slice (.int .u8)) = true := by kernel_rfl
theorem walk (v0 v1 v2 : Value) (w : World) (h0 : Go.Vm.VIs (Go.Vm.heap0 w) (.slice vtStepU) [Go.Vm.vOf w v0]) (u0 : VIsU 1048576 (Go.Vm.heap0 w) (.slice vtStepU) [Go.Vm.vOf w v0]) (h1 : Go.Vm.VIs (Go.Vm.heap0 w) (.slice vtStepU) [Go.Vm.vOf w v1]) (u1 : VIsU 1048576 (Go.Vm.heap0 w) (.slice vtStepU) [Go.Vm.vOf w v1]) (h2 : Go.Vm.VIs (Go.Vm.heap0 w) (.slice (.int .u8)) [Go.Vm.vOf w v2]) (u2 : VIsU 1048576 (Go.Vm.heap0 w) (.slice (.int .u8)) [Go.Vm.vOf w v2]) :
    Calls Try.prog 5 #[v0, v1, v2] w fun e w' => e = .returned (.bool true) ∧ Below w.heap.size w w' := by
  obtain ⟨z0, e0, hs0⟩ := u0
  obtain ⟨m0, hm0, _⟩ := stepsU_of hs0
  cases e0
  obtain ⟨z1, e1, hs1⟩ := u1
  obtain ⟨m1, hm1, _⟩ := stepsU_of hs1
  cases e1
  obtain ⟨z2, e2, hs2⟩ := h2
  obtain ⟨l, hl, hby⟩ := byt_of hs2
  cases e2
  exact Go.Vm.law_open (M := ⟨Try.prog, true⟩) (R := fun _ => True) (show Go.Vm.SF _ _ [_, _, _] _ _ _ _ from same_law hm0 hm1 hl hby (fun _ => trivial))

theorem contract (H : Type) (enc : TypeId × Value → H) (W : World) (base : Nat) (args : Array Value) (ds gs : List (DataW H)) (before : List MemPlace)
    (hval : ∀ (j : Nat) t v, Try.f5.params[j]? = some t → args[j]? = some v → Value.okWide Try.prog W .any base t v)
    (hW : DataW.Whole enc Try.prog Try.f5.params.toList Rows.portsSameSpec.vars false W args.toList ds gs before) (hk : Rows.uptoSmall H (ds ++ gs) = true) :
    Calls Try.prog 5 args W fun e W' => ∃ v, e = .returned v ∧ Rows.portsSameSpec.post enc Try.prog Try.f5 false true false false W args v W' := by
  have hW' := hW
  obtain ⟨p, q, hA0, hV, rfl, hfz, hnd⟩ := hW
  have hA : DataW.TrodAll enc Try.prog W 0 (fun _ => true) true Try.f5.params.toList args.toList ds p := hA0
  rw [Try.params5] at hA hval
  obtain ⟨v0, vs0, d0, ds0, p0, q0, hargs, rfl, rfl, h0, r0⟩ := trodAll_cons hA
  obtain ⟨v1, vs1, d1, ds1, p1, q1, rfl, rfl, rfl, h1, r1⟩ := trodAll_cons r0
  obtain ⟨v2, vs2, d2, ds2, p2, q2, rfl, rfl, rfl, h2, r2⟩ := trodAll_cons r1
  obtain ⟨rfl, rfl, rfl⟩ := trodAll_nil r2
  obtain rfl : args = #[v0, v1, v2] := by cases args; simp_all
  obtain ⟨rfl, rfl⟩ := trodVars_none hV
  obtain ⟨s0, l0, c0, rfl⟩ := okWide_slice Try.underlying46 (hval 0 46 v0 rfl rfl)
  obtain ⟨s1, l1, c1, rfl⟩ := okWide_slice Try.underlying46 (hval 1 46 v1 rfl rfl)
  obtain ⟨s2, l2, c2, rfl⟩ := okWide_slice Try.underlying36 (hval 2 36 v2 rfl rfl)
  simp only [List.append_nil] at hW' hk
  have hbulk : Rows.uptoBulkAll _ ≤ 1048576 := of_decide_eq_true hk
  have k0 := h0
  have lt0 : ∀ x ∈ p0, x.block < W.heap.size := by obtain ⟨m, hm⟩ := k0; exact DataW.trod_lt m _ _ _ hm
  have bk0 : Rows.uptoBulk d0 ≤ 1048576 := Nat.le_trans (bulk_part (by simp)) hbulk
  have visu0 : VIsU 1048576 (Go.Vm.heap0 W) (.slice vtStepU) [Go.Vm.vOf W (.slice s0 l0 c0)] := by
    obtain ⟨fuel, hf⟩ := h0
    have := trod_visU (B := 1048576) fuel 30 46 (.slice vtStepU) _ _ vt46 hf bk0
    rw [Go.Vm.vOf_one W _ (fun c e => by cases e)]
    exact this
  have vis0 : Go.Vm.VIs (Go.Vm.heap0 W) (.slice vtStepU) [Go.Vm.vOf W (.slice s0 l0 c0)] := VIsU.vis _ _ visu0
  have k1 := h1
  have lt1 : ∀ x ∈ p1, x.block < W.heap.size := by obtain ⟨m, hm⟩ := k1; exact DataW.trod_lt m _ _ _ hm
  have bk1 : Rows.uptoBulk d1 ≤ 1048576 := Nat.le_trans (bulk_part (by simp)) hbulk
  have visu1 : VIsU 1048576 (Go.Vm.heap0 W) (.slice vtStepU) [Go.Vm.vOf W (.slice s1 l1 c1)] := by
    obtain ⟨fuel, hf⟩ := h1
    have := trod_visU (B := 1048576) fuel 30 46 (.slice vtStepU) _ _ vt46 hf bk1
    rw [Go.Vm.vOf_one W _ (fun c e => by cases e)]
    exact this
  have vis1 : Go.Vm.VIs (Go.Vm.heap0 W) (.slice vtStepU) [Go.Vm.vOf W (.slice s1 l1 c1)] := VIsU.vis _ _ visu1
  have k2 := h2
  have lt2 : ∀ x ∈ p2, x.block < W.heap.size := by obtain ⟨m, hm⟩ := k2; exact DataW.trod_lt m _ _ _ hm
  have bk2 : Rows.uptoBulk d2 ≤ 1048576 := Nat.le_trans (bulk_part (by simp)) hbulk
  have visu2 : VIsU 1048576 (Go.Vm.heap0 W) (.slice (.int .u8)) [Go.Vm.vOf W (.slice s2 l2 c2)] := by
    obtain ⟨fuel, hf⟩ := h2
    have := trod_visU (B := 1048576) fuel 30 36 (.slice (.int .u8)) _ _ vt36 hf bk2
    rw [Go.Vm.vOf_one W _ (fun c e => by cases e)]
    exact this
  have vis2 : Go.Vm.VIs (Go.Vm.heap0 W) (.slice (.int .u8)) [Go.Vm.vOf W (.slice s2 l2 c2)] := VIsU.vis _ _ visu2
  clear hA0
  refine (walk  _ _ _ W vis0 visu0 vis1 visu1 vis2 visu2).mono fun e W' ⟨he, bel⟩ => ?_
  subst he
  exact ⟨_, rfl, _, _, _, [], _, [], hW', trodAll_mk1 (shut_bool Try.underlying4 _), (trodAll_cons_mk (Below.trod laidOut (by kernel_rfl) (of_decide_eq_true (by kernel_rfl)) k0 bel lt0) (trodAll_cons_mk (Below.trod laidOut (by kernel_rfl) (of_decide_eq_true (by kernel_rfl)) k1 bel lt1) (trodAll_cons_mk (Below.trod laidOut (by kernel_rfl) (of_decide_eq_true (by kernel_rfl)) k2 bel lt2) trodAll_mk0))), rfl, bel.frame _, fun h => by cases h⟩

set_option maxRecDepth 100000 in
theorem lifted (os : Os) (started : os.Started) (H : Type) (enc : TypeId × Value → H) (F : Stop.Interp) :
    ReturnsInHanded {} Try.checked os 5 .any ((Rows.OpenSpec.upto Rows.portsSameSpec).pre6 enc Try.prog Try.f5 Rows.portsSameUptoRow.domain false) (((Rows.OpenSpec.upto Rows.portsSameSpec).at F).post enc Try.prog Try.f5 false true false false) := by
  refine returnsInHanded_of_cond (C := Try.checked) (s := Rows.OpenSpec.upto Rows.portsSameSpec) (k := Rows.uptoSmall) rfl own started (by kernel_rfl) Try.func5
    (OpenSpec.witness (enc := enc) (C := Try.checked) (s := Rows.OpenSpec.upto Rows.portsSameSpec) (k := Rows.uptoSmall) rfl false ⟨#[], #[.slice none 0 0, .slice none 0 0, .slice none 0 0], []⟩ 8 (by kernel_rfl) (by kernel_rfl) (by kernel_rfl)
      (x := ([.nil, .nil, .nil], [], [])) (by kernel_rfl) rfl (by kernel_rfl)) ?_
  intro W base args ds gs before hval hW _ hk _
  exact contract H enc W base args ds gs before hval hW hk

theorem proved : Rows.PortsSameUptoSaid :=
  OpenClaim.holds_of_cond 5 Try.f5 rfl rfl rfl rfl rfl rfl rfl ⟨rfl, rfl, rfl, rfl, rfl⟩ rfl rfl rfl rfl rfl (by kernel_rfl) Try.func5 (by kernel_rfl)
    (of_decide_eq_true (by kernel_rfl)) (by unfold Func.isWrapper; first | (rw [if_pos (by decide +kernel)]; kernel_rfl) | (rw [if_neg (by decide +kernel)]; exact ⟨rfl, rfl⟩))
    (fun os started H enc _ F => lifted os started H enc F)
#print axioms proved
end Go.Proofs.Ytmimialblhlklaa.portsSame
