/- DiskCrash returns true whatever the input: its walk (Cr) lifted to the row. -/
import Derived.Test.YtgkcbpagdfdpdaaRows
import Derived.WalkKit
import Derived.ProofKit
import Derived.OpenShut
import Derived.ChangeOld
import Derived.Below
import Derived.Test.YtgkcbpagdfdpdaaVmPost
import Derived.Test.YtgkcbpagdfdpdaaCr
namespace Go.Proofs.Ytgkcbpagdfdpdaa
open Go Go.Vm
set_option maxRecDepth 100000
set_option linter.unusedVariables false
set_option linter.unusedSimpArgs false
def vtKeep : VT := .struct [.int .i64, .int .i64]
def vtStep : VT := .struct [.int .i64, .int .i64, .int .i64, .slice (.int .u8), .slice vtKeep]
theorem bytesV_of {h : Heap} {v : V} (hv : VSl h 1 (VIs h (.int .u8)) v) : ∃ l, BytesV h (fun _ => True) v l := by
  rcases hv with rfl | ⟨a, rfl⟩ | ⟨b, o, len, cap, c, ce, rfl, hlc, h0, hcm, hb, hsz, hc⟩
  · exact ⟨[], by simp, (fun x hx => by cases hx), .inl ⟨rfl, .inl rfl⟩⟩
  · exact ⟨[], by simp, (fun x hx => by cases hx), .inl ⟨rfl, .inr ⟨a, rfl⟩⟩⟩
  · refine ⟨c.gets o len, by rw [Blk.length_gets]; omega, fun x hx => ?_, .inr ⟨b, o, cap, true, c, ce, by rw [Blk.length_gets], trivial, hb, by rw [Blk.length_gets]; omega, by rw [Blk.length_gets]⟩⟩
    obtain ⟨j, hj, e⟩ := List.mem_iff_getElem.1 hx
    rw [Blk.length_gets] at hj
    have e2 := Blk.gets_get c len o j hj
    rw [List.getElem?_eq_getElem (by rw [Blk.length_gets]; exact hj), e] at e2
    obtain ⟨n, hn, h1, h2⟩ := hc j (by omega)
    rw [Nat.mul_one] at hn
    simp only [Blk.gets] at hn
    exact ⟨n, (Option.some.inj e2).trans (List.cons.inj hn).1, h1, h2⟩
theorem keepV_of {h : Heap} {v : V} (hv : VSl h 2 (VIs h vtKeep) v) : ∃ m ks kw, KeepV h (fun _ => True) v m ks kw := by
  rcases hv with rfl | ⟨a, rfl⟩ | ⟨b, o, len, cap, c, ce, rfl, hlc, h0, hcm, hb, hsz, hc⟩
  · exact ⟨0, fun _ => 0, fun _ => 0, by omega, .inl ⟨rfl, .inl rfl⟩⟩
  · exact ⟨0, fun _ => 0, fun _ => 0, by omega, .inl ⟨rfl, .inr ⟨a, rfl⟩⟩⟩
  · refine ⟨len, fun i => match c.get (o + i * 2) with | .int _ n => n | _ => 0, fun i => match c.get (o + i * 2 + 1) with | .int _ n => n | _ => 0, by omega, .inr ⟨b, o, cap, true, c, ce, rfl, trivial, hb, by omega, fun i hi => ?_⟩⟩
    have hs := hc i (by omega)
    simp only [vtKeep, VIs, VIss, VT.size, Blk.gets, List.take, List.drop, List.cons.injEq, and_true] at hs
    obtain ⟨⟨k, e0, _⟩, ⟨n1, e1, _⟩⟩ := hs
    simp only [e0, e1, and_self]
theorem stepsV_of {h : Heap} {v : V} (hv : VSl h 5 (VIs h vtStep) v) : ∃ m, StepsV h v m := by
  rcases hv with rfl | ⟨a, rfl⟩ | ⟨b, o, len, cap, c, ce, rfl, hlc, h0, hcm, hb, hsz, hc⟩
  · exact ⟨0, by omega, .inl ⟨rfl, .inl rfl⟩⟩
  · exact ⟨0, by omega, .inl ⟨rfl, .inr ⟨a, rfl⟩⟩⟩
  · refine ⟨len, by omega, .inr ⟨b, o, cap, c, ce, rfl, hb, by omega, fun i hi => ?_⟩⟩
    have hs := hc i (by omega)
    simp only [vtStep, VIs, VIss, VT.size, Blk.gets, List.take, List.drop, List.cons.injEq, and_true] at hs
    obtain ⟨⟨k, e0, _⟩, ⟨n1, e1, b1, b2⟩, ⟨n2, e2, b3, b4⟩, ⟨d, e3, hd⟩, ⟨kv, e4, hk⟩⟩ := hs
    obtain ⟨l, hd⟩ := bytesV_of hd
    obtain ⟨mk, ks, kw, hk⟩ := keepV_of hk
    exact ⟨k, n1, n2, d, l, kv, mk, ks, kw, e0, e1, e2, e3, e4, hd, hk, ⟨b1, b2⟩, ⟨b3, b4⟩⟩
end Go.Proofs.Ytgkcbpagdfdpdaa
namespace Go.Proofs.Ytgkcbpagdfdpdaa.diskCrash
open Go.ChangeShapes Go.WideShapes Go.ChangeAt Go.RowKit
set_option linter.unusedVariables false

set_option maxRecDepth 100000
theorem own : ownKnob Try.prog.godebug = none := by kernel_rfl
theorem laidOut : laidOutB Try.prog = true := by kernel_rfl
theorem vt22 : Go.Vm.vtOk Try.prog 30 22 (.slice vtStep) = true := by kernel_rfl
theorem vt23 : Go.Vm.vtOk Try.prog 30 23 (.slice vtKeep) = true := by kernel_rfl
theorem walk (a0 : Int) (w0 : (Lit.int .i64 a0).wf = true) (v1 v2 : Value) (w : World) (h1 : Go.Vm.VIs (Go.Vm.heap0 w) (.slice vtStep) [Go.Vm.vOf w v1]) (h2 : Go.Vm.VIs (Go.Vm.heap0 w) (.slice vtKeep) [Go.Vm.vOf w v2]) :
    Calls Try.prog 3 #[.int .i64 a0, v1, v2] w fun e w' => e = .returned (.bool true) ∧ Below w.heap.size w w' := by
  obtain ⟨u1, e1, hs1⟩ := h1
  obtain ⟨m, hm⟩ := stepsV_of hs1
  cases e1
  obtain ⟨u2, e2, hs2⟩ := h2
  obtain ⟨mk, ks, kw, hk⟩ := keepV_of hs2
  cases e2
  simp only [Lit.wf, Bool.and_eq_true, decide_eq_true_eq] at w0
  have key := crash_law (H := Go.Vm.heap0 w) (n := a0) w0 hm hk
  refine Go.Vm.law_open (M := ⟨Try.prog, false⟩) (R := fun _ => True) (show Go.Vm.SF _ _ [_, _, _] _ _ _ _ from ?_)
  have e : WH (Go.Vm.heap0 w) = fun b => w.heap.size ≤ b := by funext b; simp only [WH, Go.Vm.heap0_n]
  rw [e] at key
  exact key

set_option maxRecDepth 100000 in
theorem lifted (os : Os) (started : os.Started) (H : Type) (enc : TypeId × Value → H) :
    ReturnsInHanded {} Try.checked os 3 .any (Rows.diskCrashSpec.pre6 enc Try.prog Try.f3 Rows.diskCrashRow.domain false) (Rows.diskCrashSpec.post enc Try.prog Try.f3 false true false false) := by
  refine returnsInHanded_of_change (C := Try.checked) own started (by kernel_rfl) Try.func3
    (ChangeSpec.witness6 (enc := enc) (C := Try.checked) false ⟨#[], #[.int .i64 0, .slice none 0 0, .slice none 0 0], []⟩ 8 (by kernel_rfl) (by kernel_rfl) (by kernel_rfl) (by kernel_rfl)) ?_
  intro W base args ds gs before hval0 hW hcnd _
  have hval : ∀ (j : Nat) t v, Try.f3.params[j]? = some t → args[j]? = some v → Value.okWide Try.prog W .any base t v := hval0
  have hW' := hW
  obtain ⟨p, q, hA0, hV, rfl, hfz, hnd⟩ := hW
  have hA : DataW.TrodAll enc Try.prog W 0 (fun _ => true) true Try.f3.params.toList args.toList ds p := hA0
  rw [Try.params3] at hA hval
  obtain ⟨v0, vs0, d0, ds0, p0, q0, hargs, rfl, rfl, h0, r0⟩ := trodAll_cons hA
  obtain ⟨v1, vs1, d1, ds1, p1, q1, rfl, rfl, rfl, h1, r1⟩ := trodAll_cons r0
  obtain ⟨v2, vs2, d2, ds2, p2, q2, rfl, rfl, rfl, h2, r2⟩ := trodAll_cons r1
  obtain ⟨rfl, rfl, rfl⟩ := trodAll_nil r2
  obtain rfl : args = #[v0, v1, v2] := by cases args; simp_all
  obtain ⟨rfl, rfl⟩ := trodVars_none hV
  obtain ⟨a0, rfl, rfl, rfl, w0⟩ := open_int Try.underlying3 (hval 0 3 v0 rfl rfl) h0
  obtain ⟨s1, l1, c1, rfl⟩ := okWide_slice Try.underlying22 (hval 1 22 v1 rfl rfl)
  obtain ⟨s2, l2, c2, rfl⟩ := okWide_slice Try.underlying23 (hval 2 23 v2 rfl rfl)
  have k1 := h1
  have lt1 : ∀ x ∈ p1, x.block < W.heap.size := by obtain ⟨m, hm⟩ := k1; exact DataW.trod_lt m _ _ _ hm
  have vis1 : Go.Vm.VIs (Go.Vm.heap0 W) (.slice vtStep) [Go.Vm.vOf W (.slice s1 l1 c1)] := by
    obtain ⟨fuel, hf⟩ := h1
    have := Go.Vm.trod_vis fuel 30 22 (.slice vtStep) _ _ vt22 hf
    rw [Go.Vm.vOf_one W _ (fun c e => by cases e)]
    exact this
  have k2 := h2
  have lt2 : ∀ x ∈ p2, x.block < W.heap.size := by obtain ⟨m, hm⟩ := k2; exact DataW.trod_lt m _ _ _ hm
  have vis2 : Go.Vm.VIs (Go.Vm.heap0 W) (.slice vtKeep) [Go.Vm.vOf W (.slice s2 l2 c2)] := by
    obtain ⟨fuel, hf⟩ := h2
    have := Go.Vm.trod_vis fuel 30 23 (.slice vtKeep) _ _ vt23 hf
    rw [Go.Vm.vOf_one W _ (fun c e => by cases e)]
    exact this
  clear hA0 hval0
  refine (walk a0 w0 _ _ W vis1 vis2).mono fun e W' ⟨he, bel⟩ => ?_
  subst he
  exact ⟨_, rfl, _, _, _, [], _, [], hW', trodAll_mk1 (shut_bool Try.underlying4 _), (trodAll_cons_mk (shut_int Try.underlying3 w0) (trodAll_cons_mk (Below.trod laidOut (by kernel_rfl) (of_decide_eq_true (by kernel_rfl)) k1 bel lt1) (trodAll_cons_mk (Below.trod laidOut (by kernel_rfl) (of_decide_eq_true (by kernel_rfl)) k2 bel lt2) trodAll_mk0))), rfl, bel.frame _, fun h => by cases h⟩

theorem over : Rows.diskCrashRow.holds Try.pinned (OpenSpec.ofChange Rows.diskCrashSpec) :=
  OpenClaim.holds_of_wide 3 Try.f3 rfl rfl rfl rfl rfl rfl rfl ⟨rfl, rfl, rfl, rfl, rfl⟩ rfl rfl rfl rfl rfl (by kernel_rfl) Try.func3 (by kernel_rfl)
    (of_decide_eq_true (by kernel_rfl)) (by unfold Func.isWrapper; first | (rw [if_pos (by decide +kernel)]; kernel_rfl) | (rw [if_neg (by decide +kernel)]; exact ⟨rfl, rfl⟩))
    (fun os started H enc _ => lifted os started H enc)

theorem proved : Rows.DiskCrashSaid :=
  over
#print axioms proved
end Go.Proofs.Ytgkcbpagdfdpdaa.diskCrash
