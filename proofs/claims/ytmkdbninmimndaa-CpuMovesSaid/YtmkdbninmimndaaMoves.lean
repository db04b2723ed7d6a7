/- CpuMoves returns true whatever the input: its walk (M4) lifted to the row. -/
import Derived.Test.YtmkdbninmimndaaRows
import Derived.WalkKit
import Derived.ProofKit
import Derived.OpenShut
import Derived.ChangeOld
import Derived.Below
import Derived.Test.YtmkdbninmimndaaVmPost
import Derived.Test.YtmkdbninmimndaaM4
namespace Go.Proofs.Ytmkdbninmimndaa
open Go Go.Vm
set_option maxRecDepth 100000
set_option linter.unusedVariables false
set_option linter.unusedSimpArgs false
theorem lv_of {h : Heap} {v : V} {k : IntKind} (hv : VSl h 1 (VIs h (.int k)) v) : ∃ l, LV h v l ∧ l.length ≤ 9223372036854775807 ∧ ∀ x ∈ l, ∃ n : Int, x = .int k n ∧ k.min ≤ n ∧ n ≤ k.max := by
  rcases hv with rfl | ⟨a, rfl⟩ | ⟨b, o, len, cap, c, ce, rfl, hlc, h0, hcm, hb, hsz, hc⟩
  · exact ⟨[], .inl ⟨rfl, .inl rfl⟩, by simp, fun x hx => by cases hx⟩
  · exact ⟨[], .inl ⟨rfl, .inr ⟨a, rfl⟩⟩, by simp, fun x hx => by cases hx⟩
  · refine ⟨c.gets o len, .inr ⟨b, o, cap, true, c, ce, by rw [Blk.length_gets], hb, by rw [Blk.length_gets]; omega, by rw [Blk.length_gets]⟩, by rw [Blk.length_gets]; omega, fun x hx => ?_⟩
    obtain ⟨j, hj, e⟩ := List.mem_iff_getElem.1 hx
    rw [Blk.length_gets] at hj
    have e2 := Blk.gets_get c len o j hj
    rw [List.getElem?_eq_getElem (by rw [Blk.length_gets]; exact hj), e] at e2
    obtain ⟨n, hn, h1, h2⟩ := hc j (by omega)
    rw [Nat.mul_one] at hn
    simp only [Blk.gets] at hn
    exact ⟨n, (Option.some.inj e2).trans (List.cons.inj hn).1, h1, h2⟩
end Go.Proofs.Ytmkdbninmimndaa
namespace Go.Proofs.Ytmkdbninmimndaa.cpuMoves
open Go.ChangeShapes Go.WideShapes Go.ChangeAt Go.RowKit
set_option linter.unusedVariables false
set_option linter.unusedSimpArgs false

set_option maxRecDepth 100000
theorem own : ownKnob Try.prog.godebug = none := by kernel_rfl
theorem laidOut : laidOutB Try.prog = true := by kernel_rfl
theorem vt23 : Go.Vm.vtOk Try.prog 30 23 (.slice (.int .u8)) = true := by kernel_rfl
theorem vt24 : Go.Vm.vtOk Try.prog 30 24 (.slice (.int .i64)) = true := by kernel_rfl
theorem walk (a2 : Int) (w2 : (Lit.int .u32 a2).wf = true) (a3 : Int) (w3 : (Lit.int .i64 a3).wf = true) (a4 : Int) (w4 : (Lit.int .i64 a4).wf = true) (v0 v1 v5 : Value) (w : World) (h0 : Go.Vm.VIs (Go.Vm.heap0 w) (.slice (.int .u8)) [Go.Vm.vOf w v0]) (h1 : Go.Vm.VIs (Go.Vm.heap0 w) (.slice (.int .i64)) [Go.Vm.vOf w v1]) (h5 : Go.Vm.VIs (Go.Vm.heap0 w) (.slice (.int .u8)) [Go.Vm.vOf w v5]) :
    Calls Try.prog 5 #[v0, v1, .int .u32 a2, .int .i64 a3, .int .i64 a4, v5] w fun e w' => e = .returned (.bool true) ∧ Below w.heap.size w w' := by
  obtain ⟨u0, e0, hs0⟩ := h0
  obtain ⟨l, hl, hl1, hl2⟩ := lv_of hs0
  cases e0
  obtain ⟨u1, e1, hs1⟩ := h1
  obtain ⟨Q, hQ, hQ1, hQ2⟩ := lv_of hs1
  cases e1
  obtain ⟨u5, e5, hs5⟩ := h5
  obtain ⟨ld, hd, hd1, hd2⟩ := lv_of hs5
  cases e5
  have x2 : 0 ≤ a2 ∧ a2 ≤ 4294967295 := by simpa [Lit.wf, IntKind.min, IntKind.max, IntKind.signed, IntKind.bits] using w2
  obtain ⟨a, rfl⟩ := Int.eq_ofNat_of_zero_le x2.1
  have key := moves_law (H := Go.Vm.heap0 w) (q := fun i => match Q[i]? with | some (.int _ n) => n | _ => 0) (a := a) (n := a3) (r := a4) hl (fun x hx => by obtain ⟨n, e, h1, h2⟩ := hl2 x hx; exact ⟨n, e, h1, h2⟩) hQ (fun i hi => by
    obtain ⟨n, e, _⟩ := hQ2 Q[i] (List.getElem_mem hi)
    rw [List.getElem?_eq_getElem hi, e]) hd (fun x hx => by obtain ⟨n, e, h1, h2⟩ := hd2 x hx; exact ⟨n, e, h1, h2⟩) hl1 hQ1 hd1 (by omega)
  refine Go.Vm.law_open (M := ⟨Try.prog, false⟩) (R := fun _ => True) (show Go.Vm.SF _ _ [_, _, _, _, _, _] _ _ _ _ from ?_)
  have e : WH (Go.Vm.heap0 w) = fun b => w.heap.size ≤ b := by funext b; simp only [WH, Go.Vm.heap0_n]
  rw [e] at key
  exact key

set_option maxRecDepth 100000 in
theorem lifted (os : Os) (started : os.Started) (H : Type) (enc : TypeId × Value → H) :
    ReturnsInHanded {} Try.checked os 5 .any (Rows.cpuMovesSpec.pre6 enc Try.prog Try.f5 Rows.cpuMovesRow.domain false) (Rows.cpuMovesSpec.post enc Try.prog Try.f5 false true false false) := by
  refine returnsInHanded_of_change (C := Try.checked) own started (by kernel_rfl) Try.func5
    (ChangeSpec.witness6 (enc := enc) (C := Try.checked) false ⟨#[], #[.slice none 0 0, .slice none 0 0, .int .u32 0, .int .i64 0, .int .i64 0, .slice none 0 0], []⟩ 8 (by kernel_rfl) (by kernel_rfl) (by kernel_rfl) (by kernel_rfl)) ?_
  intro W base args ds gs before hval0 hW hcnd _
  have hval : ∀ (j : Nat) t v, Try.f5.params[j]? = some t → args[j]? = some v → Value.okWide Try.prog W .any base t v := hval0
  have hW' := hW
  obtain ⟨p, q, hA0, hV, rfl, hfz, hnd⟩ := hW
  have hA : DataW.TrodAll enc Try.prog W 0 (fun _ => true) true Try.f5.params.toList args.toList ds p := hA0
  rw [Try.params5] at hA hval
  obtain ⟨v0, vs0, d0, ds0, p0, q0, hargs, rfl, rfl, h0, r0⟩ := trodAll_cons hA
  obtain ⟨v1, vs1, d1, ds1, p1, q1, rfl, rfl, rfl, h1, r1⟩ := trodAll_cons r0
  obtain ⟨v2, vs2, d2, ds2, p2, q2, rfl, rfl, rfl, h2, r2⟩ := trodAll_cons r1
  obtain ⟨v3, vs3, d3, ds3, p3, q3, rfl, rfl, rfl, h3, r3⟩ := trodAll_cons r2
  obtain ⟨v4, vs4, d4, ds4, p4, q4, rfl, rfl, rfl, h4, r4⟩ := trodAll_cons r3
  obtain ⟨v5, vs5, d5, ds5, p5, q5, rfl, rfl, rfl, h5, r5⟩ := trodAll_cons r4
  obtain ⟨rfl, rfl, rfl⟩ := trodAll_nil r5
  obtain rfl : args = #[v0, v1, v2, v3, v4, v5] := by cases args; simp_all
  obtain ⟨rfl, rfl⟩ := trodVars_none hV
  obtain ⟨s0, l0, c0, rfl⟩ := okWide_slice Try.underlying23 (hval 0 23 v0 rfl rfl)
  obtain ⟨s1, l1, c1, rfl⟩ := okWide_slice Try.underlying24 (hval 1 24 v1 rfl rfl)
  obtain ⟨a2, rfl, rfl, rfl, w2⟩ := open_int Try.underlying25 (hval 2 25 v2 rfl rfl) h2
  obtain ⟨a3, rfl, rfl, rfl, w3⟩ := open_int Try.underlying3 (hval 3 3 v3 rfl rfl) h3
  obtain ⟨a4, rfl, rfl, rfl, w4⟩ := open_int Try.underlying3 (hval 4 3 v4 rfl rfl) h4
  obtain ⟨s5, l5, c5, rfl⟩ := okWide_slice Try.underlying23 (hval 5 23 v5 rfl rfl)
  have k0 := h0
  have lt0 : ∀ x ∈ p0, x.block < W.heap.size := by obtain ⟨m, hm⟩ := k0; exact DataW.trod_lt m _ _ _ hm
  have vis0 : Go.Vm.VIs (Go.Vm.heap0 W) (.slice (.int .u8)) [Go.Vm.vOf W (.slice s0 l0 c0)] := by
    obtain ⟨fuel, hf⟩ := h0
    have := Go.Vm.trod_vis fuel 30 23 (.slice (.int .u8)) _ _ vt23 hf
    rw [Go.Vm.vOf_one W _ (fun c e => by cases e)]
    exact this
  have k1 := h1
  have lt1 : ∀ x ∈ p1, x.block < W.heap.size := by obtain ⟨m, hm⟩ := k1; exact DataW.trod_lt m _ _ _ hm
  have vis1 : Go.Vm.VIs (Go.Vm.heap0 W) (.slice (.int .i64)) [Go.Vm.vOf W (.slice s1 l1 c1)] := by
    obtain ⟨fuel, hf⟩ := h1
    have := Go.Vm.trod_vis fuel 30 24 (.slice (.int .i64)) _ _ vt24 hf
    rw [Go.Vm.vOf_one W _ (fun c e => by cases e)]
    exact this
  have k5 := h5
  have lt5 : ∀ x ∈ p5, x.block < W.heap.size := by obtain ⟨m, hm⟩ := k5; exact DataW.trod_lt m _ _ _ hm
  have vis5 : Go.Vm.VIs (Go.Vm.heap0 W) (.slice (.int .u8)) [Go.Vm.vOf W (.slice s5 l5 c5)] := by
    obtain ⟨fuel, hf⟩ := h5
    have := Go.Vm.trod_vis fuel 30 23 (.slice (.int .u8)) _ _ vt23 hf
    rw [Go.Vm.vOf_one W _ (fun c e => by cases e)]
    exact this
  clear hA0 hval0
  refine (walk a2 w2 a3 w3 a4 w4 _ _ _ W vis0 vis1 vis5).mono fun e W' ⟨he, bel⟩ => ?_
  subst he
  exact ⟨_, rfl, _, _, _, [], _, [], hW', trodAll_mk1 (shut_bool Try.underlying4 _), (trodAll_cons_mk (Below.trod laidOut (by kernel_rfl) (of_decide_eq_true (by kernel_rfl)) k0 bel lt0) (trodAll_cons_mk (Below.trod laidOut (by kernel_rfl) (of_decide_eq_true (by kernel_rfl)) k1 bel lt1) (trodAll_cons_mk (shut_int Try.underlying25 w2) (trodAll_cons_mk (shut_int Try.underlying3 w3) (trodAll_cons_mk (shut_int Try.underlying3 w4) (trodAll_cons_mk (Below.trod laidOut (by kernel_rfl) (of_decide_eq_true (by kernel_rfl)) k5 bel lt5) trodAll_mk0)))))), rfl, bel.frame _, fun h => by cases h⟩

theorem over : Rows.cpuMovesRow.holds Try.pinned (OpenSpec.ofChange Rows.cpuMovesSpec) :=
  OpenClaim.holds_of_wide 5 Try.f5 rfl rfl rfl rfl rfl rfl rfl ⟨rfl, rfl, rfl, rfl, rfl⟩ rfl rfl rfl rfl rfl (by kernel_rfl) Try.func5 (by kernel_rfl)
    (of_decide_eq_true (by kernel_rfl)) (by unfold Func.isWrapper; first | (rw [if_pos (by decide +kernel)]; kernel_rfl) | (rw [if_neg (by decide +kernel)]; exact ⟨rfl, rfl⟩))
    (fun os started H enc _ => lifted os started H enc)

theorem proved : Rows.CpuMovesSaid :=
  over
#print axioms proved
end Go.Proofs.Ytmkdbninmimndaa.cpuMoves
