/- RedoHalfway returns true whatever the input: its walk (LK) lifted to the row. -/
import Derived.Test.YtakgjjbmniilhaaRows
import Derived.WalkKit
import Derived.ProofKit
import Derived.OpenShut
import Derived.ChangeOld
import Derived.Below
import Derived.Test.YtakgjjbmniilhaaV2
import Derived.Test.YtakgjjbmniilhaaV4
import Derived.Test.YtakgjjbmniilhaaLK
set_option linter.unusedVariables false
set_option linter.unusedSimpArgs false
set_option linter.unusedSimpArgs false
namespace Go.Proofs.Ytakgjjbmniilhaa
open Go Go.Vm
set_option maxRecDepth 100000
set_option linter.unusedVariables false
set_option linter.unusedSimpArgs false
theorem lrB_of {h : Heap} {v : V} (hv : VSl h 1 (VIs h (.int .u8)) v) : ∃ l, LR h (fun b => b < h.n) v l ∧ capOk v ∧ Byt l ∧ l.length ≤ 9223372036854775807 := by
  rcases hv with rfl | ⟨a, rfl⟩ | ⟨b, o, len, cap, c, ce, rfl, hlc, h0, hcm, hb, hsz, hc⟩
  · exact ⟨[], .inl ⟨rfl, .inl rfl⟩, Nat.le_refl _, (fun x hx => by cases hx), by simp⟩
  · exact ⟨[], .inl ⟨rfl, .inr ⟨a, rfl⟩⟩, trivial, (fun x hx => by cases hx), by simp⟩
  · refine ⟨c.gets o len, .inr ⟨b, o, cap, true, c, ce, by rw [Blk.length_gets], Heap.lt_of_get hb, hb, by rw [Blk.length_gets]; omega, by rw [Blk.length_gets]⟩, hlc, fun x hx => ?_, by rw [Blk.length_gets]; omega⟩
    obtain ⟨j, hj, e⟩ := List.mem_iff_getElem.1 hx
    rw [Blk.length_gets] at hj
    have e2 := Blk.gets_get c len o j hj
    rw [List.getElem?_eq_getElem (by rw [Blk.length_gets]; exact hj), e] at e2
    obtain ⟨n, hn, h1, h2⟩ := hc j (by omega)
    rw [Nat.mul_one] at hn
    simp only [Blk.gets] at hn
    exact ⟨n, (Option.some.inj e2).trans (List.cons.inj hn).1, h1, h2⟩
theorem datV_of {h : Heap} {v : V} (hv : VSl h 1 (VIs h (.int .u8)) v) : ∃ l, DatV h v l := by
  obtain ⟨l, h1, h2, h3, h4⟩ := lrB_of hv
  exact ⟨l, h1, h2, h3, h4⟩
theorem intL_of {h : Heap} {v : V} (hv : VSl h 1 (VIs h (.int .i64)) v) : ∃ kl : List Int, LR h (fun b => b < h.n) v (kl.map (V.int .i64)) ∧ ∀ k ∈ kl, -9223372036854775808 ≤ k ∧ k ≤ 9223372036854775807 := by
  rcases hv with rfl | ⟨a, rfl⟩ | ⟨b, o, len, cap, c, ce, rfl, hlc, h0, hcm, hb, hsz, hc⟩
  · exact ⟨[], .inl ⟨rfl, .inl rfl⟩, fun k hk => by cases hk⟩
  · exact ⟨[], .inl ⟨rfl, .inr ⟨a, rfl⟩⟩, fun k hk => by cases hk⟩
  · have key : ∀ j, j < len → ∃ n : Int, c.get (o + j) = .int .i64 n ∧ -9223372036854775808 ≤ n ∧ n ≤ 9223372036854775807 := fun j hj => by
      obtain ⟨n, hn, h1, h2⟩ := hc j (by omega)
      rw [Nat.mul_one] at hn
      simp only [Blk.gets] at hn
      exact ⟨n, (List.cons.inj hn).1, h1, h2⟩
    obtain ⟨F, eF⟩ : ∃ F : Nat → Int, ∀ j, j < len → c.get (o + j) = .int .i64 (F j) ∧ -9223372036854775808 ≤ F j ∧ F j ≤ 9223372036854775807 :=
      ⟨fun j => match c.get (o + j) with | .int _ n => n | _ => 0, fun j hj => by obtain ⟨n, e, h1, h2⟩ := key j hj; simp only [e, true_and]; exact ⟨h1, h2⟩⟩
    refine ⟨(List.range len).map F, .inr ⟨b, o, cap, true, c, ce, by simp, Heap.lt_of_get hb, hb, by simp; omega, List.ext_getElem? fun j => ?_⟩, fun k hk => ?_⟩
    · simp only [List.length_map, List.length_range]
      by_cases hj : j < len
      · rw [Blk.gets_get _ _ _ _ hj, (eF j hj).1]
        simp [hj]
      · rw [List.getElem?_eq_none (by rw [Blk.length_gets]; omega), List.getElem?_eq_none (by simp; omega)]
    · obtain ⟨j, hj, rfl⟩ := List.mem_map.1 hk
      exact (eF j (List.mem_range.1 hj)).2
def vtStep : VT := .struct [.int .i64, .slice (.int .u8), .slice (.int .i64)]
theorem stepsR_of {h : Heap} {v : V} (hv : VSl h 3 (VIs h vtStep) v) : ∃ m, StepsR h v m := by
  rcases hv with rfl | ⟨a, rfl⟩ | ⟨b, o, len, cap, c, ce, rfl, hlc, h0, hcm, hb, hsz, hc⟩
  · exact ⟨0, by omega, .inl ⟨rfl, .inl rfl⟩⟩
  · exact ⟨0, by omega, .inl ⟨rfl, .inr ⟨a, rfl⟩⟩⟩
  · refine ⟨len, by omega, .inr ⟨b, o, cap, c, ce, rfl, hb, by omega, fun i hi => ?_⟩⟩
    have hs := hc i (by omega)
    simp only [vtStep, VIs, VIss, VT.size, Blk.gets, List.take, List.drop, List.cons.injEq, and_true] at hs
    obtain ⟨⟨n, e0, b1, b2⟩, ⟨d, e1, hd⟩, ⟨kv, e2, hk⟩⟩ := hs
    refine ⟨⟨n, e0, b1, b2⟩, ?_, ?_⟩
    · rw [e1]; exact datV_of hd
    · rw [e2]; exact intL_of hk
end Go.Proofs.Ytakgjjbmniilhaa
namespace Go.Proofs.Ytakgjjbmniilhaa.redoHalfway
open Go.ChangeShapes Go.WideShapes Go.ChangeAt Go.RowKit
set_option linter.unusedVariables false
set_option linter.unusedSimpArgs false
set_option maxRecDepth 100000
theorem own : ownKnob Try.prog.godebug = none := by kernel_rfl
theorem laidOut : laidOutB Try.prog = true := by kernel_rfl
theorem vt22 : Go.Vm.vtOk Try.prog 30 22 (.slice (.int .u8)) = true := by kernel_rfl
theorem vt66 : Go.Vm.vtOk Try.prog 30 66 (.slice (.int .i64)) = true := by kernel_rfl
theorem vt65 : Go.Vm.vtOk Try.prog 30 65 (.slice vtStep) = true := by kernel_rfl
theorem walk (v0 v1 v2 : Value) (w : World) (h0 : Go.Vm.VIs (Go.Vm.heap0 w) (.slice vtStep) [Go.Vm.vOf w v0]) (h1 : Go.Vm.VIs (Go.Vm.heap0 w) (.slice (.int .u8)) [Go.Vm.vOf w v1]) (h2 : Go.Vm.VIs (Go.Vm.heap0 w) (.slice (.int .i64)) [Go.Vm.vOf w v2]) :
    Calls Try.prog 6 #[v0, v1, v2] w fun e w' => e = .returned (.bool true) ∧ Below w.heap.size w w' := by
  obtain ⟨u0, e0, hs0⟩ := h0
  obtain ⟨m, hm⟩ := stepsR_of hs0
  cases e0
  obtain ⟨u1, e1, hs1⟩ := h1
  obtain ⟨l1, hl1⟩ := datV_of hs1
  cases e1
  obtain ⟨u2, e2, hs2⟩ := h2
  obtain ⟨kl, hk1, hk2⟩ := intL_of hs2
  cases e2
  exact Go.Vm.law_open (M := ⟨Try.prog, true⟩) (R := fun _ => True) (show Go.Vm.SF _ _ [_, _, _] _ _ _ _ from half_law hm hl1 hk1 hk2 (fun _ => trivial))

set_option maxRecDepth 100000 in
theorem lifted (os : Os) (started : os.Started) (H : Type) (enc : TypeId × Value → H) :
    ReturnsInHanded {} Try.checked os 6 .any (Rows.redoHalfwaySpec.pre6 enc Try.prog Try.f6 Rows.redoHalfwayRow.domain false) (Rows.redoHalfwaySpec.post enc Try.prog Try.f6 false true false false) := by
  refine returnsInHanded_of_change (C := Try.checked) own started (by kernel_rfl) Try.func6
    (ChangeSpec.witness6 (enc := enc) (C := Try.checked) false ⟨#[], #[.slice none 0 0, .slice none 0 0, .slice none 0 0], []⟩ 8 (by kernel_rfl) (by kernel_rfl) (by kernel_rfl) (by kernel_rfl)) ?_
  intro W base args ds gs before hval0 hW hcnd _
  have hval : ∀ (j : Nat) t v, Try.f6.params[j]? = some t → args[j]? = some v → Value.okWide Try.prog W .any base t v := hval0
  have hW' := hW
  obtain ⟨p, q, hA0, hV, rfl, hfz, hnd⟩ := hW
  have hA : DataW.TrodAll enc Try.prog W 0 (fun _ => true) true Try.f6.params.toList args.toList ds p := hA0
  rw [Try.params6] at hA hval
  obtain ⟨v0, vs0, d0, ds0, p0, q0, hargs, rfl, rfl, h0, r0⟩ := trodAll_cons hA
  obtain ⟨v1, vs1, d1, ds1, p1, q1, rfl, rfl, rfl, h1, r1⟩ := trodAll_cons r0
  obtain ⟨v2, vs2, d2, ds2, p2, q2, rfl, rfl, rfl, h2, r2⟩ := trodAll_cons r1
  obtain ⟨rfl, rfl, rfl⟩ := trodAll_nil r2
  obtain rfl : args = #[v0, v1, v2] := by cases args; simp_all
  obtain ⟨rfl, rfl⟩ := trodVars_none hV
  obtain ⟨s0, l0, c0, rfl⟩ := okWide_slice Try.underlying65 (hval 0 65 v0 rfl rfl)
  obtain ⟨s1, l1, c1, rfl⟩ := okWide_slice Try.underlying22 (hval 1 22 v1 rfl rfl)
  obtain ⟨s2, l2, c2, rfl⟩ := okWide_slice Try.underlying66 (hval 2 66 v2 rfl rfl)
  have k0 := h0
  have lt0 : ∀ x ∈ p0, x.block < W.heap.size := by obtain ⟨m, hm⟩ := k0; exact DataW.trod_lt m _ _ _ hm
  have vis0 : Go.Vm.VIs (Go.Vm.heap0 W) (.slice vtStep) [Go.Vm.vOf W (.slice s0 l0 c0)] := by
    obtain ⟨fuel, hf⟩ := h0
    have := Go.Vm.trod_vis fuel 30 65 (.slice vtStep) _ _ vt65 hf
    rw [Go.Vm.vOf_one W _ (fun c e => by cases e)]
    exact this
  have k1 := h1
  have lt1 : ∀ x ∈ p1, x.block < W.heap.size := by obtain ⟨m, hm⟩ := k1; exact DataW.trod_lt m _ _ _ hm
  have vis1 : Go.Vm.VIs (Go.Vm.heap0 W) (.slice (.int .u8)) [Go.Vm.vOf W (.slice s1 l1 c1)] := by
    obtain ⟨fuel, hf⟩ := h1
    have := Go.Vm.trod_vis fuel 30 22 (.slice (.int .u8)) _ _ vt22 hf
    rw [Go.Vm.vOf_one W _ (fun c e => by cases e)]
    exact this
  have k2 := h2
  have lt2 : ∀ x ∈ p2, x.block < W.heap.size := by obtain ⟨m, hm⟩ := k2; exact DataW.trod_lt m _ _ _ hm
  have vis2 : Go.Vm.VIs (Go.Vm.heap0 W) (.slice (.int .i64)) [Go.Vm.vOf W (.slice s2 l2 c2)] := by
    obtain ⟨fuel, hf⟩ := h2
    have := Go.Vm.trod_vis fuel 30 66 (.slice (.int .i64)) _ _ vt66 hf
    rw [Go.Vm.vOf_one W _ (fun c e => by cases e)]
    exact this
  clear hA0 hval0
  refine (walk  _ _ _ W vis0 vis1 vis2).mono fun e W' ⟨he, bel⟩ => ?_
  subst he
  exact ⟨_, rfl, _, _, _, [], _, [], hW', trodAll_mk1 (shut_bool Try.underlying4 _), (trodAll_cons_mk (Below.trod laidOut (by kernel_rfl) (of_decide_eq_true (by kernel_rfl)) k0 bel lt0) (trodAll_cons_mk (Below.trod laidOut (by kernel_rfl) (of_decide_eq_true (by kernel_rfl)) k1 bel lt1) (trodAll_cons_mk (Below.trod laidOut (by kernel_rfl) (of_decide_eq_true (by kernel_rfl)) k2 bel lt2) trodAll_mk0))), rfl, bel.frame _, fun h => by cases h⟩

theorem over : Rows.redoHalfwayRow.holds Try.pinned (OpenSpec.ofChange Rows.redoHalfwaySpec) :=
  OpenClaim.holds_of_wide 6 Try.f6 rfl rfl rfl rfl rfl rfl rfl ⟨rfl, rfl, rfl, rfl, rfl⟩ rfl rfl rfl rfl rfl (by kernel_rfl) Try.func6 (by kernel_rfl)
    (of_decide_eq_true (by kernel_rfl)) (by unfold Func.isWrapper; first | (rw [if_pos (by decide +kernel)]; kernel_rfl) | (rw [if_neg (by decide +kernel)]; exact ⟨rfl, rfl⟩))
    (fun os started H enc _ => lifted os started H enc)

theorem proved : Rows.RedoHalfwaySaid :=
  over
#print axioms proved
end Go.Proofs.Ytakgjjbmniilhaa.redoHalfway
