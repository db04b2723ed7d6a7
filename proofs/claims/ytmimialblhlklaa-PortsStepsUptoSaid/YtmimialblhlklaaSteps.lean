/- PortsSteps returns true where what it reads is small: its walk (RT) lifted to the row. -/
import Derived.Test.YtmimialblhlklaaRows
import Derived.WalkKit
import Derived.ProofKit
import Derived.OpenShut
import Derived.ChangeOld
import Derived.Below
import Derived.JoinedCond
import Derived.Test.YtmimialblhlklaaV2
import Derived.Test.YtmimialblhlklaaRV
import Derived.Test.YtmimialblhlklaaN9
import Derived.Test.YtmimialblhlklaaUpto
set_option linter.unusedVariables false
namespace Go.Proofs.Ytmimialblhlklaa.portsSteps
open Go.ChangeShapes Go.WideShapes Go.ChangeAt Go.RowKit

set_option maxRecDepth 100000
theorem own : ownKnob Try.prog.godebug = none := by kernel_rfl
theorem laidOut : laidOutB Try.prog = true := by kernel_rfl
theorem vt46 : Go.Vm.vtOk Try.prog 30 46 (.slice vtStepU) = true := by kernel_rfl
theorem vt30 : Go.Vm.vtOk Try.prog 30 30 (.slice (.int .i64)) = true := by kernel_rfl
theorem ints_of {h : Go.Vm.Heap} {v : Go.Vm.V} (hv : Go.Vm.VSl h 1 (Go.Vm.VIs h (.int .i64)) v) : ∃ zs : List Int, Go.Vm.LR h (fun _ => True) v (zs.map (Go.Vm.V.int .i64)) := by
 rcases hv with rfl | ⟨a, rfl⟩ | ⟨b, o, len, cap, c, ce, rfl, hlc, h0, hcm, hb, hsz, hc⟩
 ·exact ⟨[], .inl ⟨rfl, .inl rfl⟩⟩
 ·exact ⟨[], .inl ⟨rfl, .inr ⟨a, rfl⟩⟩⟩
 ·have key : ∀ x ∈ c.gets o len, ∃ n : Int, x = Go.Vm.V.int .i64 n := fun x hx => by
   obtain ⟨j, hj, e⟩ := List.mem_iff_getElem.1 hx
   rw [Go.Vm.Blk.length_gets] at hj
   have e2 := Go.Vm.Blk.gets_get c len o j hj
   rw [List.getElem?_eq_getElem (by rw [Go.Vm.Blk.length_gets]; exact hj), e] at e2
   obtain ⟨n, hn, h1, h2⟩ := hc j (by omega)
   rw [Nat.mul_one] at hn
   simp only [Go.Vm.Blk.gets] at hn
   exact ⟨n, (Option.some.inj e2).trans (List.cons.inj hn).1⟩
  have all : ∀ l : List Go.Vm.V, (∀ x ∈ l, ∃ n : Int, x = Go.Vm.V.int .i64 n) → ∃ zs : List Int, l = zs.map (Go.Vm.V.int .i64) := fun l => by
   induction l with
   | nil => exact fun _ => ⟨[], rfl⟩
   | cons x l ih =>
    intro hl
    obtain ⟨n, rfl⟩ := hl x (by simp)
    obtain ⟨zs, rfl⟩ := ih fun y hy => hl y (by simp [hy])
    exact ⟨n :: zs, rfl⟩
  obtain ⟨zs, hz⟩ := all _ key
  have hlen : zs.length = len := by
   have := congrArg List.length hz
   rw [Go.Vm.Blk.length_gets, List.length_map] at this
   exact this.symm
  refine ⟨zs, .inr ⟨b, o, cap, true, c, ce, by rw [List.length_map, hlen], trivial, hb, by rw [List.length_map, hlen]; omega, by rw [List.length_map, hlen]; exact hz⟩⟩
theorem walk (a2 : Int) (w2 : (Lit.int .i64 a2).wf = true) (v0 v1 : Value) (w : World) (h0 : Go.Vm.VIs (Go.Vm.heap0 w) (.slice (.int .i64)) [Go.Vm.vOf w v0]) (u0 : VIsU 1048576 (Go.Vm.heap0 w) (.slice (.int .i64)) [Go.Vm.vOf w v0]) (h1 : Go.Vm.VIs (Go.Vm.heap0 w) (.slice vtStepU) [Go.Vm.vOf w v1]) (u1 : VIsU 1048576 (Go.Vm.heap0 w) (.slice vtStepU) [Go.Vm.vOf w v1]) :
  Calls Try.prog 6 #[v0, v1, .int .i64 a2] w fun e w' => e = .returned (.bool true) ∧ Below w.heap.size w w' := by
 obtain ⟨z0, e0, hs0⟩ := h0
 obtain ⟨zs, hzs⟩ := ints_of hs0
 cases e0
 obtain ⟨z1, e1, hs1⟩ := u1
 obtain ⟨m1, hm1, _⟩ := stepsU_of hs1
 cases e1
 exact Go.Vm.law_open (M := ⟨Try.prog, true⟩) (R := fun _ => True) (show Go.Vm.SF _ _ [_, _, _] _ _ _ _ from steps_law a2 hzs hm1 (fun _ => trivial))

theorem contract (H : Type) (enc : TypeId × Value → H) (W : World) (base : Nat) (args : Array Value) (ds gs : List (DataW H)) (before : List MemPlace)
  (hval : ∀ (j : Nat) t v, Try.f6.params[j]? = some t → args[j]? = some v → Value.okWide Try.prog W .any base t v)
  (hW : DataW.Whole enc Try.prog Try.f6.params.toList Rows.portsStepsSpec.vars false W args.toList ds gs before) (hk : Rows.uptoSmall H (ds ++ gs) = true) :
  Calls Try.prog 6 args W fun e W' => ∃ v, e = .returned v ∧ Rows.portsStepsSpec.post enc Try.prog Try.f6 false true false false W args v W' := by
 have hW' := hW
 obtain ⟨p, q, hA0, hV, rfl, hfz, hnd⟩ := hW
 have hA : DataW.TrodAll enc Try.prog W 0 (fun _ => true) true Try.f6.params.toList args.toList ds p := hA0
 rw [Try.params6] at hA hval
 obtain ⟨v0, vs0, d0, ds0, p0, q0, hargs, rfl, rfl, h0, r0⟩ := trodAll_cons hA
 obtain ⟨v1, vs1, d1, ds1, p1, q1, rfl, rfl, rfl, h1, r1⟩ := trodAll_cons r0
 obtain ⟨v2, vs2, d2, ds2, p2, q2, rfl, rfl, rfl, h2, r2⟩ := trodAll_cons r1
 obtain ⟨rfl, rfl, rfl⟩ := trodAll_nil r2
 obtain rfl : args = #[v0, v1, v2] := by cases args; simp_all
 obtain ⟨rfl, rfl⟩ := trodVars_none hV
 obtain ⟨s0, l0, c0, rfl⟩ := okWide_slice Try.underlying30 (hval 0 30 v0 rfl rfl)
 obtain ⟨s1, l1, c1, rfl⟩ := okWide_slice Try.underlying46 (hval 1 46 v1 rfl rfl)
 obtain ⟨a2, rfl, rfl, rfl, w2⟩ := open_int Try.underlying3 (hval 2 3 v2 rfl rfl) h2
 simp only [List.append_nil] at hW' hk
 have hbulk : Rows.uptoBulkAll _ ≤ 1048576 := of_decide_eq_true hk
 have k0 := h0
 have lt0 : ∀ x ∈ p0, x.block < W.heap.size := by obtain ⟨m, hm⟩ := k0; exact DataW.trod_lt m _ _ _ hm
 have bk0 : Rows.uptoBulk d0 ≤ 1048576 := Nat.le_trans (bulk_part (by simp)) hbulk
 have visu0 : VIsU 1048576 (Go.Vm.heap0 W) (.slice (.int .i64)) [Go.Vm.vOf W (.slice s0 l0 c0)] := by
  obtain ⟨fuel, hf⟩ := h0
  have := trod_visU (B := 1048576) fuel 30 30 (.slice (.int .i64)) _ _ vt30 hf bk0
  rw [Go.Vm.vOf_one W _ (fun c e => by cases e)]
  exact this
 have vis0 : Go.Vm.VIs (Go.Vm.heap0 W) (.slice (.int .i64)) [Go.Vm.vOf W (.slice s0 l0 c0)] := VIsU.vis _ _ visu0
 have k1 := h1
 have lt1 : ∀ x ∈ p1, x.block < W.heap.size := by obtain ⟨m, hm⟩ := k1; exact DataW.trod_lt m _ _ _ hm
 have bk1 : Rows.uptoBulk d1 ≤ 1048576 := Nat.le_trans (bulk_part (by simp)) hbulk
 have visu1 : VIsU 1048576 (Go.Vm.heap0 W) (.slice vtStepU) [Go.Vm.vOf W (.slice s1 l1 c1)] := by
  obtain ⟨fuel, hf⟩ := h1
  have := trod_visU (B := 1048576) fuel 30 46 (.slice vtStepU) _ _ vt46 hf bk1
  rw [Go.Vm.vOf_one W _ (fun c e => by cases e)]
  exact this
 have vis1 : Go.Vm.VIs (Go.Vm.heap0 W) (.slice vtStepU) [Go.Vm.vOf W (.slice s1 l1 c1)] := VIsU.vis _ _ visu1
 clear hA0
 refine (walk a2 w2 _ _ W vis0 visu0 vis1 visu1).mono fun e W' ⟨he, bel⟩ => ?_
 subst he
 exact ⟨_, rfl, _, _, _, [], _, [], hW', trodAll_mk1 (shut_bool Try.underlying4 _), (trodAll_cons_mk (Below.trod laidOut (by kernel_rfl) (of_decide_eq_true (by kernel_rfl)) k0 bel lt0) (trodAll_cons_mk (Below.trod laidOut (by kernel_rfl) (of_decide_eq_true (by kernel_rfl)) k1 bel lt1) (trodAll_cons_mk (shut_int Try.underlying3 w2) trodAll_mk0))), rfl, bel.frame _, fun h => by cases h⟩

set_option maxRecDepth 100000 in
theorem lifted (os : Os) (started : os.Started) (H : Type) (enc : TypeId × Value → H) (F : Stop.Interp) :
  ReturnsInHanded {} Try.checked os 6 .any ((Rows.OpenSpec.upto Rows.portsStepsSpec).pre6 enc Try.prog Try.f6 Rows.portsStepsUptoRow.domain false) (((Rows.OpenSpec.upto Rows.portsStepsSpec).at F).post enc Try.prog Try.f6 false true false false) := by
 refine returnsInHanded_of_cond (C := Try.checked) (s := Rows.OpenSpec.upto Rows.portsStepsSpec) (k := Rows.uptoSmall) rfl own started (by kernel_rfl) Try.func6
  (OpenSpec.witness (enc := enc) (C := Try.checked) (s := Rows.OpenSpec.upto Rows.portsStepsSpec) (k := Rows.uptoSmall) rfl false ⟨#[], #[.slice none 0 0, .slice none 0 0, .int .i64 0], []⟩ 8 (by kernel_rfl) (by kernel_rfl) (by kernel_rfl)
   (x := ([.nil, .nil, .lit (.int .i64 0)], [], [])) (by kernel_rfl) rfl (by kernel_rfl)) ?_
 intro W base args ds gs before hval hW _ hk _
 exact contract H enc W base args ds gs before hval hW hk

theorem proved : Rows.PortsStepsUptoSaid :=
 OpenClaim.holds_of_cond 6 Try.f6 rfl rfl rfl rfl rfl rfl rfl ⟨rfl, rfl, rfl, rfl, rfl⟩ rfl rfl rfl rfl rfl (by kernel_rfl) Try.func6 (by kernel_rfl)
  (of_decide_eq_true (by kernel_rfl)) (by unfold Func.isWrapper; first | (rw [if_pos (by decide +kernel)]; kernel_rfl) | (rw [if_neg (by decide +kernel)]; exact ⟨rfl, rfl⟩))
  (fun os started H enc _ F => lifted os started H enc F)
#print axioms proved
end Go.Proofs.Ytmimialblhlklaa.portsSteps
