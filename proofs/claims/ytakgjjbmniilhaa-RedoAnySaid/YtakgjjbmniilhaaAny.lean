/- RedoAny returns true whatever the input: its walk (JK) lifted to the row. -/
import Derived.Test.YtakgjjbmniilhaaRows
import Derived.WalkKit
import Derived.ProofKit
import Derived.OpenShut
import Derived.ChangeOld
import Derived.Below
import Derived.Test.YtakgjjbmniilhaaV2
import Derived.Test.YtakgjjbmniilhaaV4
import Derived.Test.YtakgjjbmniilhaaMg20
set_option linter.unusedVariables false
namespace Go.Proofs.Ytakgjjbmniilhaa
open Go Go.Vm
set_option maxRecDepth 100000
set_option linter.unusedVariables false
theorem lrB_of {h : Heap} {v : V} (hv : VSl h 1 (VIs h (.int .u8)) v) : ∃ l, LR h (fun b => b < h.n) v l ∧ xU v ∧ Byt l ∧ l.length ≤ 9223372036854775807 := by
 rcases hv with rfl | ⟨a, rfl⟩ | ⟨b, o, len, cap, c, ce, rfl, hlc, h0, hcm, hb, hsz, hc⟩
 ·exact ⟨[], .inl ⟨rfl, .inl rfl⟩, Nat.le_refl _, (fun x hx => by cases hx), by simp⟩
 ·exact ⟨[], .inl ⟨rfl, .inr ⟨a, rfl⟩⟩, trivial, (fun x hx => by cases hx), by simp⟩
 ·refine ⟨c.gets o len, .inr ⟨b, o, cap, true, c, ce, by rw [Blk.qJ], Heap.lt_of_get hb, hb, by rw [Blk.qJ]; omega, by rw [Blk.qJ]⟩, hlc, fun x hx => ?_, by rw [Blk.qJ]; omega⟩
  obtain ⟨j, hj, e⟩ := List.mem_iff_getElem.1 hx
  rw [Blk.qJ] at hj
  have e2 := Blk.qM c len o j hj
  rw [List.getElem?_eq_getElem (by rw [Blk.qJ]; exact hj), e] at e2
  obtain ⟨n, hn, h1, h2⟩ := hc j (by omega)
  rw [Nat.mul_one] at hn
  simp only [Blk.gets] at hn
  exact ⟨n, (Option.some.inj e2).trans (List.cons.inj hn).1, h1, h2⟩
theorem i64_wf {a : Int} (w : (Lit.int .i64 a).wf = true) : -9223372036854775808 ≤ a ∧ a ≤ 9223372036854775807 := by
 simp only [Lit.wf, Bool.and_eq_true, decide_eq_true_eq] at w
 exact ⟨w.1, w.2⟩
end Go.Proofs.Ytakgjjbmniilhaa
namespace Go.Proofs.Ytakgjjbmniilhaa.redoAny
open Go.ChangeShapes Go.WideShapes Go.ChangeAt Go.RowKit
set_option linter.unusedVariables false
set_option maxRecDepth 100000
theorem own : ownKnob Try.prog.godebug = none := by kernel_rfl
theorem laidOut : laidOutB Try.prog = true := by kernel_rfl
theorem vt22 : Go.Vm.vtOk Try.prog 30 22 (.slice (.int .u8)) = true := by kernel_rfl
theorem walk (v0 v1 : Value) (w : World) (h0 : Go.Vm.VIs (Go.Vm.heap0 w) (.slice (.int .u8)) [Go.Vm.vOf w v0]) (h1 : Go.Vm.VIs (Go.Vm.heap0 w) (.slice (.int .u8)) [Go.Vm.vOf w v1]) :
  Calls Try.prog 5 #[v0, v1] w fun e w' => e = .returned (.bool true) ∧ Below w.heap.size w w' := by
 obtain ⟨u0, e0, hs0⟩ := h0
 obtain ⟨l0, hl0, hc0, hb0, hll0⟩ := lrB_of hs0
 cases e0
 obtain ⟨u1, e1, hs1⟩ := h1
 obtain ⟨l1, hl1, hc1, hb1, hll1⟩ := lrB_of hs1
 cases e1
 exact Go.Vm.law_open (M := ⟨Try.prog, true⟩) (R := fun _ => True) (show Go.Vm.SF _ _ [_, _] _ _ _ _ from any_law (fun _ _ _ hR => known_c hR) hl0 hb0 hll0 hl1 hc1 hb1 hll1 (fun _ => trivial))

set_option maxRecDepth 100000 in
theorem lifted (os : Os) (started : os.Started) (H : Type) (enc : TypeId × Value → H) :
  ReturnsInHanded {} Try.checked os 5 .any (Rows.redoAnySpec.pre6 enc Try.prog Try.f5 Rows.redoAnyRow.domain false) (Rows.redoAnySpec.post enc Try.prog Try.f5 false true false false) := by
 refine returnsInHanded_of_change (C := Try.checked) own started (by kernel_rfl) Try.func5
  (ChangeSpec.witness6 (enc := enc) (C := Try.checked) false ⟨#[], #[.slice none 0 0, .slice none 0 0], []⟩ 8 (by kernel_rfl) (by kernel_rfl) (by kernel_rfl) (by kernel_rfl)) ?_
 intro W base args ds gs before hval0 hW hcnd _
 have hval : ∀ (j : Nat) t v, Try.f5.params[j]? = some t → args[j]? = some v → Value.okWide Try.prog W .any base t v := hval0
 have hW' := hW
 obtain ⟨p, q, hA0, hV, rfl, hfz, hnd⟩ := hW
 have hA : DataW.TrodAll enc Try.prog W 0 (fun _ => true) true Try.f5.params.toList args.toList ds p := hA0
 rw [Try.params5] at hA hval
 obtain ⟨v0, vs0, d0, ds0, p0, q0, hargs, rfl, rfl, h0, r0⟩ := trodAll_cons hA
 obtain ⟨v1, vs1, d1, ds1, p1, q1, rfl, rfl, rfl, h1, r1⟩ := trodAll_cons r0
 obtain ⟨rfl, rfl, rfl⟩ := trodAll_nil r1
 obtain rfl : args = #[v0, v1] := by cases args; simp_all
 obtain ⟨rfl, rfl⟩ := trodVars_none hV
 obtain ⟨s0, l0, c0, rfl⟩ := okWide_slice Try.underlying22 (hval 0 22 v0 rfl rfl)
 obtain ⟨s1, l1, c1, rfl⟩ := okWide_slice Try.underlying22 (hval 1 22 v1 rfl rfl)
 have k0 := h0
 have lt0 : ∀ x ∈ p0, x.block < W.heap.size := by obtain ⟨m, hm⟩ := k0; exact DataW.trod_lt m _ _ _ hm
 have vis0 : Go.Vm.VIs (Go.Vm.heap0 W) (.slice (.int .u8)) [Go.Vm.vOf W (.slice s0 l0 c0)] := by
  obtain ⟨fuel, hf⟩ := h0
  have := Go.Vm.trod_vis fuel 30 22 (.slice (.int .u8)) _ _ vt22 hf
  rw [Go.Vm.vOf_one W _ (fun c e => by cases e)]
  exact this
 have k1 := h1
 have lt1 : ∀ x ∈ p1, x.block < W.heap.size := by obtain ⟨m, hm⟩ := k1; exact DataW.trod_lt m _ _ _ hm
 have vis1 : Go.Vm.VIs (Go.Vm.heap0 W) (.slice (.int .u8)) [Go.Vm.vOf W (.slice s1 l1 c1)] := by
  obtain ⟨fuel, hf⟩ := h1
  have := Go.Vm.trod_vis fuel 30 22 (.slice (.int .u8)) _ _ vt22 hf
  rw [Go.Vm.vOf_one W _ (fun c e => by cases e)]
  exact this
 clear hA0 hval0
 refine (walk  _ _ W vis0 vis1).mono fun e W' ⟨he, bel⟩ => ?_
 subst he
 exact ⟨_, rfl, _, _, _, [], _, [], hW', trodAll_mk1 (shut_bool Try.underlying4 _), (trodAll_cons_mk (Below.trod laidOut (by kernel_rfl) (of_decide_eq_true (by kernel_rfl)) k0 bel lt0) (trodAll_cons_mk (Below.trod laidOut (by kernel_rfl) (of_decide_eq_true (by kernel_rfl)) k1 bel lt1) trodAll_mk0)), rfl, bel.frame _, fun h => by cases h⟩

theorem over : Rows.redoAnyRow.holds Try.pinned (OpenSpec.ofChange Rows.redoAnySpec) :=
 OpenClaim.holds_of_wide 5 Try.f5 rfl rfl rfl rfl rfl rfl rfl ⟨rfl, rfl, rfl, rfl, rfl⟩ rfl rfl rfl rfl rfl (by kernel_rfl) Try.func5 (by kernel_rfl)
  (of_decide_eq_true (by kernel_rfl)) (by unfold Func.isWrapper; first | (rw [if_pos (by decide +kernel)]; kernel_rfl) | (rw [if_neg (by decide +kernel)]; exact ⟨rfl, rfl⟩))
  (fun os started H enc _ => lifted os started H enc)

theorem proved : Rows.RedoAnySaid :=
 over
#print axioms proved
end Go.Proofs.Ytakgjjbmniilhaa.redoAny
