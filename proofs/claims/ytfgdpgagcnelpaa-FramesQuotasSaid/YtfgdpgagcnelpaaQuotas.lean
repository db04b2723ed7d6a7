/- FramesQuotas returns true whatever the input: its walk (Q) lifted to the row. -/
import Derived.Test.YtfgdpgagcnelpaaRows
import Derived.WalkKit
import Derived.ProofKit
import Derived.OpenShut
import Derived.ChangeOld
import Derived.Below
import Derived.Test.YtfgdpgagcnelpaaVmPost
import Derived.Test.YtfgdpgagcnelpaaQ
namespace Go.Proofs.Ytfgdpgagcnelpaa.framesQuotas
open Go.ChangeShapes Go.WideShapes Go.ChangeAt Go.RowKit
set_option linter.unusedVariables false
set_option linter.unusedSimpArgs false

set_option maxRecDepth 100000
theorem own : ownKnob Try.prog.godebug = none := by kernel_rfl
theorem laidOut : laidOutB Try.prog = true := by kernel_rfl
theorem vt34 : Go.Vm.vtOk Try.prog 10 34 (.slice vtStep) = true := by kernel_rfl

theorem vt49 : Go.Vm.vtOk Try.prog 10 49 (.slice (.int .i64)) = true := by kernel_rfl
theorem intsV_of {h : Go.Vm.Heap} {v : Go.Vm.V} (hv : Go.Vm.VSl h 1 (Go.Vm.VIs h (.int .i64)) v) : ∃ m g, IntsV h v m g := by
  rcases hv with rfl | ⟨a, rfl⟩ | ⟨b, o, len, cap, c, ce, rfl, hlc, h0, hcm, hb, hsz, hc⟩
  · exact ⟨0, fun _ => 0, fun i hi => by omega, by omega, .inl ⟨rfl, .inl rfl⟩⟩
  · exact ⟨0, fun _ => 0, fun i hi => by omega, by omega, .inl ⟨rfl, .inr ⟨a, rfl⟩⟩⟩
  · have key : ∀ i, i < cap → ∃ n : Int, c.get (o + i) = .int .i64 n ∧ -9223372036854775808 ≤ n ∧ n ≤ 9223372036854775807 := fun i hi => by
      obtain ⟨n, hn, h1, h2⟩ := hc i hi
      rw [Nat.mul_one] at hn
      simp only [Go.Vm.Blk.gets] at hn
      exact ⟨n, (List.cons.inj hn).1, h1, h2⟩
    refine ⟨len, fun i => match c.get (o + i) with | .int _ n => n | _ => 0, fun i hi => ?_, by omega, .inr ⟨b, o, cap, c, ce, rfl, hb, by omega, fun i hi => ?_⟩⟩
    · obtain ⟨n, e, h1, h2⟩ := key i (by omega)
      rw [e]; exact ⟨h1, h2⟩
    · obtain ⟨n, e, _⟩ := key i (by omega)
      rw [e]
theorem walk (a0 : Int) (w0 : (Lit.int .i64 a0).wf = true) (v1 v2 : Value) (w : World) (h1 : Go.Vm.VIs (Go.Vm.heap0 w) (.slice (.int .i64)) [Go.Vm.vOf w v1]) (h2 : Go.Vm.VIs (Go.Vm.heap0 w) (.slice vtStep) [Go.Vm.vOf w v2]) :
    Calls Try.prog 6 #[.int .i64 a0, v1, v2] w fun e w' => e = .returned (.bool true) ∧ Below w.heap.size w w' := by
  obtain ⟨u1, e1, hs1⟩ := h1
  obtain ⟨mq, gq, hq⟩ := intsV_of hs1
  cases e1
  obtain ⟨u2, e2, hs2⟩ := h2
  obtain ⟨m, hm⟩ := stepsV_of hs2
  cases e2
  simp only [Lit.wf, Bool.and_eq_true, decide_eq_true_eq] at w0
  have key := quotas_law (H := Go.Vm.heap0 w) (n := a0) w0 hq hm
  refine Go.Vm.law_open (M := ⟨Try.prog, true⟩) (R := fun _ => True) (show Go.Vm.SF _ _ [_, _, _] _ _ _ _ from ?_)
  have e : WH (Go.Vm.heap0 w) = fun b => w.heap.size ≤ b := by funext b; simp only [WH, Go.Vm.heap0_n]
  rw [e] at key
  exact key

set_option maxRecDepth 100000 in
theorem lifted (os : Os) (started : os.Started) (H : Type) (enc : TypeId × Value → H) :
    ReturnsInHanded {} Try.checked os 6 .any (Rows.framesQuotasSpec.pre6 enc Try.prog Try.f6 Rows.framesQuotasRow.domain false) (Rows.framesQuotasSpec.post enc Try.prog Try.f6 false true false false) := by
  refine returnsInHanded_of_change (C := Try.checked) own started (by kernel_rfl) Try.func6
    (ChangeSpec.witness6 (enc := enc) (C := Try.checked) false ⟨#[], #[.int .i64 0, .slice none 0 0, .slice none 0 0], []⟩ 8 (by kernel_rfl) (by kernel_rfl) (by kernel_rfl) (by kernel_rfl)) ?_
  intro W base args ds gs before hval0 hW hcnd _
  have hval : ∀ (j : Nat) t v, Try.f6.params[j]? = some t → args[j]? = some v → Value.okWide Try.prog W .any base t v := hval0
  have hW' := hW
  obtain ⟨p, q, hA0, hV, rfl, hfz, hnd⟩ := hW
  have hA : DataW.TrodAll enc Try.prog W 0 (fun _ => true) true Try.f6.params.toList args.toList ds p := hA0
  rw [Try.params6] at hA hval
  obtain ⟨v0, vs0, d0, ds0, p0, q0, hargs, rfl, rfl, h0, r0⟩ := trodAll_cons hA
  obtain ⟨v1, vs1, d1, ds1, p1, q1, rfl, rfl, rfl, h1, r1⟩ := trodAll_cons r0
  obtain ⟨v2, vs2, d2, ds2, p2, q2, rfl, rfl, rfl, h2, r2⟩ := trodAll_cons r1
  obtain ⟨rfl, rfl, rfl⟩ := trodAll_nil r2
  obtain rfl : args = #[v0, v1, v2] := by cases args; simp_all
  obtain ⟨rfl, rfl⟩ := trodVars_none hV
  obtain ⟨a0, rfl, rfl, rfl, w0⟩ := open_int Try.underlying3 (hval 0 3 v0 rfl rfl) h0
  obtain ⟨s1, l1, c1, rfl⟩ := okWide_slice Try.underlying49 (hval 1 49 v1 rfl rfl)
  obtain ⟨s2, l2, c2, rfl⟩ := okWide_slice Try.underlying34 (hval 2 34 v2 rfl rfl)
  have k1 := h1
  have k2 := h2
  have lt1 : ∀ x ∈ p1, x.block < W.heap.size := by obtain ⟨m, hm⟩ := k1; exact DataW.trod_lt m _ _ _ hm
  have lt2 : ∀ x ∈ p2, x.block < W.heap.size := by obtain ⟨m, hm⟩ := k2; exact DataW.trod_lt m _ _ _ hm
  have vis1 : Go.Vm.VIs (Go.Vm.heap0 W) (.slice (.int .i64)) [Go.Vm.vOf W (.slice s1 l1 c1)] := by
    obtain ⟨fuel, hf⟩ := h1
    have := Go.Vm.trod_vis fuel 10 49 (.slice (.int .i64)) _ _ vt49 hf
    rw [Go.Vm.vOf_one W _ (fun c e => by cases e)]
    exact this
  have vis2 : Go.Vm.VIs (Go.Vm.heap0 W) (.slice vtStep) [Go.Vm.vOf W (.slice s2 l2 c2)] := by
    obtain ⟨fuel, hf⟩ := h2
    have := Go.Vm.trod_vis fuel 10 34 (.slice vtStep) _ _ vt34 hf
    rw [Go.Vm.vOf_one W _ (fun c e => by cases e)]
    exact this
  clear hA0 hval0
  refine (walk a0 w0 _ _ W vis1 vis2).mono fun e W' ⟨he, bel⟩ => ?_
  subst he
  exact ⟨_, rfl, _, _, _, [], _, [], hW', trodAll_mk1 (shut_bool Try.underlying4 _), (trodAll_cons_mk (shut_int Try.underlying3 w0) (trodAll_cons_mk (Below.trod laidOut (by kernel_rfl) (of_decide_eq_true (by kernel_rfl)) k1 bel lt1) (trodAll_cons_mk (Below.trod laidOut (by kernel_rfl) (of_decide_eq_true (by kernel_rfl)) k2 bel lt2) trodAll_mk0))), rfl, bel.frame _, fun h => by cases h⟩

theorem over : Rows.framesQuotasRow.holds Try.pinned (OpenSpec.ofChange Rows.framesQuotasSpec) :=
  OpenClaim.holds_of_wide 6 Try.f6 rfl rfl rfl rfl rfl rfl rfl ⟨rfl, rfl, rfl, rfl, rfl⟩ rfl rfl rfl rfl rfl (by kernel_rfl) Try.func6 (by kernel_rfl)
    (of_decide_eq_true (by kernel_rfl)) (by unfold Func.isWrapper; first | (rw [if_pos (by decide +kernel)]; kernel_rfl) | (rw [if_neg (by decide +kernel)]; exact ⟨rfl, rfl⟩))
    (fun os started H enc _ => lifted os started H enc)

theorem proved : Rows.FramesQuotasSaid :=
  over
#print axioms proved
end Go.Proofs.Ytfgdpgagcnelpaa.framesQuotas
