/- RedoBlank returns true whatever the input: its walk (HN) lifted to the row. -/
import Derived.Test.YtakgjjbmniilhaaRows
import Derived.WalkKit
import Derived.ProofKit
import Derived.OpenShut
import Derived.ChangeOld
import Derived.Below
import Derived.Test.YtakgjjbmniilhaaV2
import Derived.Test.YtakgjjbmniilhaaV4
import Derived.Test.YtakgjjbmniilhaaNilA
import Derived.Test.YtakgjjbmniilhaaHN
set_option linter.unusedVariables false
set_option linter.unusedSimpArgs false
set_option linter.unusedSimpArgs false
namespace Go.Proofs.Ytakgjjbmniilhaa
open Go Go.Vm
set_option maxRecDepth 100000
set_option linter.unusedVariables false
set_option linter.unusedSimpArgs false
theorem lrB_of {h : Heap} {v : V} (hv : VSl h 1 (VIs h (.int .u8)) v) : ∃ l, LR h (fun b => b < h.n) v l ∧ capOk v ∧ Byt l ∧ l.length ≤ 9223372036854775807 := by
  rcases hv with rfl | ⟨a, rfl⟩ | ⟨b, o, len, cap, c, ce, rfl, hlc, h0, hcm, hb, hsz, hc⟩
  · exact ⟨[], .inl ⟨rfl, .inl rfl⟩, Nat.le_refl _, (fun x hx => by cases hx), by simp⟩
  · exact ⟨[], .inl ⟨rfl, .inr ⟨a, rfl⟩⟩, trivial, (fun x hx => by cases hx), by simp⟩
  · refine ⟨c.gets o len, .inr ⟨b, o, cap, true, c, ce, by rw [Blk.length_gets], Heap.lt_of_get hb, hb, by rw [Blk.length_gets]; omega, by rw [Blk.length_gets]⟩, hlc, fun x hx => ?_, by rw [Blk.length_gets]; omega⟩
    obtain ⟨j, hj, e⟩ := List.mem_iff_getElem.1 hx
    rw [Blk.length_gets] at hj
    have e2 := Blk.gets_get c len o j hj
    rw [List.getElem?_eq_getElem (by rw [Blk.length_gets]; exact hj), e] at e2
    obtain ⟨n, hn, h1, h2⟩ := hc j (by omega)
    rw [Nat.mul_one] at hn
    simp only [Blk.gets] at hn
    exact ⟨n, (Option.some.inj e2).trans (List.cons.inj hn).1, h1, h2⟩
theorem i64_wf {a : Int} (w : (Lit.int .i64 a).wf = true) : -9223372036854775808 ≤ a ∧ a ≤ 9223372036854775807 := by
  simp only [Lit.wf, Bool.and_eq_true, decide_eq_true_eq] at w
  exact ⟨w.1, w.2⟩
theorem known_dem (h : Heap) (R W : Set') : SF ⟨Try.prog, true⟩ 7 [] h R W fun r g => r = .bool true ∧ g = h := (SF.closedH hm hk1_ok k_known h R W).any
end Go.Proofs.Ytakgjjbmniilhaa
namespace Go.Proofs.Ytakgjjbmniilhaa.redoBlank
open Go.ChangeShapes Go.WideShapes Go.ChangeAt Go.RowKit
set_option linter.unusedVariables false
set_option linter.unusedSimpArgs false
set_option maxRecDepth 100000
theorem own : ownKnob Try.prog.godebug = none := by kernel_rfl
theorem laidOut : laidOutB Try.prog = true := by kernel_rfl
theorem vt22 : Go.Vm.vtOk Try.prog 30 22 (.slice (.int .u8)) = true := by kernel_rfl
theorem walk (a0 : Int) (w0 : (Lit.int .i64 a0).wf = true) (a1 : Int) (w1 : (Lit.int .i64 a1).wf = true) (v2 : Value) (w : World) (h2 : Go.Vm.VIs (Go.Vm.heap0 w) (.slice (.int .u8)) [Go.Vm.vOf w v2]) :
    Calls Try.prog 3 #[.int .i64 a0, .int .i64 a1, v2] w fun e w' => e = .returned (.bool true) ∧ Below w.heap.size w w' := by
  obtain ⟨u2, e2, hs2⟩ := h2
  obtain ⟨l, hl, hc, hb, hll⟩ := lrB_of hs2
  cases e2
  exact Go.Vm.law_open (M := ⟨Try.prog, true⟩) (R := fun _ => True) (show Go.Vm.SF _ _ [_, _, _] _ _ _ _ from blank_law known_dem (i64_wf w0) (i64_wf w1) hl hc hb hll (fun _ => trivial))

set_option maxRecDepth 100000 in
theorem lifted (os : Os) (started : os.Started) (H : Type) (enc : TypeId × Value → H) :
    ReturnsInHanded {} Try.checked os 3 .any (Rows.redoBlankSpec.pre6 enc Try.prog Try.f3 Rows.redoBlankRow.domain false) (Rows.redoBlankSpec.post enc Try.prog Try.f3 false true false false) := by
  refine returnsInHanded_of_change (C := Try.checked) own started (by kernel_rfl) Try.func3
    (ChangeSpec.witness6 (enc := enc) (C := Try.checked) false ⟨#[], #[.int .i64 0, .int .i64 0, .slice none 0 0], []⟩ 8 (by kernel_rfl) (by kernel_rfl) (by kernel_rfl) (by kernel_rfl)) ?_
  intro W base args ds gs before hval0 hW hcnd _
  have hval : ∀ (j : Nat) t v, Try.f3.params[j]? = some t → args[j]? = some v → Value.okWide Try.prog W .any base t v := hval0
  have hW' := hW
  obtain ⟨p, q, hA0, hV, rfl, hfz, hnd⟩ := hW
  have hA : DataW.TrodAll enc Try.prog W 0 (fun _ => true) true Try.f3.params.toList args.toList ds p := hA0
  rw [Try.params3] at hA hval
  obtain ⟨v0, vs0, d0, ds0, p0, q0, hargs, rfl, rfl, h0, r0⟩ := trodAll_cons hA
  obtain ⟨v1, vs1, d1, ds1, p1, q1, rfl, rfl, rfl, h1, r1⟩ := trodAll_cons r0
  obtain ⟨v2, vs2, d2, ds2, p2, q2, rfl, rfl, rfl, h2, r2⟩ := trodAll_cons r1
  obtain ⟨rfl, rfl, rfl⟩ := trodAll_nil r2
  obtain rfl : args = #[v0, v1, v2] := by cases args; simp_all
  obtain ⟨rfl, rfl⟩ := trodVars_none hV
  obtain ⟨a0, rfl, rfl, rfl, w0⟩ := open_int Try.underlying3 (hval 0 3 v0 rfl rfl) h0
  obtain ⟨a1, rfl, rfl, rfl, w1⟩ := open_int Try.underlying3 (hval 1 3 v1 rfl rfl) h1
  obtain ⟨s2, l2, c2, rfl⟩ := okWide_slice Try.underlying22 (hval 2 22 v2 rfl rfl)
  have k2 := h2
  have lt2 : ∀ x ∈ p2, x.block < W.heap.size := by obtain ⟨m, hm⟩ := k2; exact DataW.trod_lt m _ _ _ hm
  have vis2 : Go.Vm.VIs (Go.Vm.heap0 W) (.slice (.int .u8)) [Go.Vm.vOf W (.slice s2 l2 c2)] := by
    obtain ⟨fuel, hf⟩ := h2
    have := Go.Vm.trod_vis fuel 30 22 (.slice (.int .u8)) _ _ vt22 hf
    rw [Go.Vm.vOf_one W _ (fun c e => by cases e)]
    exact this
  clear hA0 hval0
  refine (walk a0 w0 a1 w1 _ W vis2).mono fun e W' ⟨he, bel⟩ => ?_
  subst he
  exact ⟨_, rfl, _, _, _, [], _, [], hW', trodAll_mk1 (shut_bool Try.underlying4 _), (trodAll_cons_mk (shut_int Try.underlying3 w0) (trodAll_cons_mk (shut_int Try.underlying3 w1) (trodAll_cons_mk (Below.trod laidOut (by kernel_rfl) (of_decide_eq_true (by kernel_rfl)) k2 bel lt2) trodAll_mk0))), rfl, bel.frame _, fun h => by cases h⟩

theorem over : Rows.redoBlankRow.holds Try.pinned (OpenSpec.ofChange Rows.redoBlankSpec) :=
  OpenClaim.holds_of_wide 3 Try.f3 rfl rfl rfl rfl rfl rfl rfl ⟨rfl, rfl, rfl, rfl, rfl⟩ rfl rfl rfl rfl rfl (by kernel_rfl) Try.func3 (by kernel_rfl)
    (of_decide_eq_true (by kernel_rfl)) (by unfold Func.isWrapper; first | (rw [if_pos (by decide +kernel)]; kernel_rfl) | (rw [if_neg (by decide +kernel)]; exact ⟨rfl, rfl⟩))
    (fun os started H enc _ => lifted os started H enc)

theorem proved : Rows.RedoBlankSaid :=
  over
#print axioms proved
end Go.Proofs.Ytakgjjbmniilhaa.redoBlank
