/- DiskTells returns true where what it reads is small: its walk (TL3) lifted to the row. -/
import Derived.Test.YtgkcbpagdfdpdaaRows
import Derived.WalkKit
import Derived.ProofKit
import Derived.OpenShut
import Derived.ChangeOld
import Derived.Below
import Derived.JoinedCond
import Derived.Test.YtgkcbpagdfdpdaaV2
import Derived.Test.YtgkcbpagdfdpdaaVU
import Derived.Test.YtgkcbpagdfdpdaaTL3
set_option linter.unusedVariables false
set_option linter.unusedSimpArgs false
set_option linter.unusedSimpArgs false
namespace Go.Proofs.Ytgkcbpagdfdpdaa.diskTells
open Go.ChangeShapes Go.WideShapes Go.ChangeAt Go.RowKit
set_option linter.unusedVariables false
set_option linter.unusedSimpArgs false

set_option maxRecDepth 100000
theorem own : ownKnob Try.prog.godebug = none := by kernel_rfl
theorem laidOut : laidOutB Try.prog = true := by kernel_rfl
theorem vt22 : Go.Vm.vtOk Try.prog 30 22 (.slice vtStep) = true := by kernel_rfl
theorem vt59 : Go.Vm.vtOk Try.prog 30 59 (.array 2 (.int .i64)) = true := by kernel_rfl
theorem okWide_array {P : Program} {w : World} {r : Reach} {base : Nat} {t e : TypeId} {n : Nat} {v : Value} (ht : P.underlying t = some (.array n e)) (h : Value.okWide P w r base t v) : ∃ cs, v = .agg cs := by
  simp only [Value.okWide, ht] at h
  obtain ⟨cs, h1, h2, _⟩ := h
  exact ⟨cs, h1⟩
theorem two_of {h : Go.Vm.Heap} {cs : List Go.Vm.V} (hv : Go.Vm.VIs h (.array 2 (.int .i64)) cs) : ∃ a b, cs = [.int .i64 a, .int .i64 b] := by
  simp only [Go.Vm.VIs, Go.Vm.VT.size] at hv
  obtain ⟨hl, hc⟩ := hv
  match cs, hl with
  | [x, y], _ =>
    obtain ⟨a, e0, _⟩ := hc 0 (by omega)
    obtain ⟨b, e1, _⟩ := hc 1 (by omega)
    simp at e0 e1
    exact ⟨a, b, by rw [e0, e1]⟩
theorem walk (v1 v2 : Value) (cs : Array Value) (w : World) (h0 : Go.Vm.VIs (Go.Vm.heap0 w) (.array 2 (.int .i64)) (cs.toList.map (Go.Vm.vOf1 w))) (h1 : Go.Vm.VIs (Go.Vm.heap0 w) (.slice vtStep) [Go.Vm.vOf w v1]) (u1 : VIsU 1048576 (Go.Vm.heap0 w) (.slice vtStep) [Go.Vm.vOf w v1])
    (h2 : Go.Vm.VIs (Go.Vm.heap0 w) (.slice vtStep) [Go.Vm.vOf w v2]) (u2 : VIsU 1048576 (Go.Vm.heap0 w) (.slice vtStep) [Go.Vm.vOf w v2]) :
    Calls Try.prog 7 #[.agg cs, v1, v2] w fun e w' => e = .returned (.bool true) ∧ Below w.heap.size w w' := by
  obtain ⟨a, b, e0⟩ := two_of h0
  obtain ⟨x1, e1, hs1⟩ := h1
  obtain ⟨y1, e2, hs2⟩ := u1
  cases e1
  cases e2
  obtain ⟨m1, hm1⟩ := stepsU_of hs1 hs2
  obtain ⟨x2, e1, hs1⟩ := h2
  obtain ⟨y2, e2, hs2⟩ := u2
  cases e1
  cases e2
  obtain ⟨m2, hm2⟩ := stepsU_of hs1 hs2
  have key := tells_law (H := Go.Vm.heap0 w) (a0 := a) (a1 := b) hm1 hm2
  refine Go.Vm.law_open (M := ⟨Try.prog, true⟩) (R := fun _ => True) (show Go.Vm.SF _ _ [.agg (cs.toList.map (Go.Vm.vOf1 w)), _, _] _ _ _ _ from ?_)
  have e : WH (Go.Vm.heap0 w) = fun b => w.heap.size ≤ b := by funext b; simp only [WH, Go.Vm.heap0_n]
  rw [e] at key
  rw [e0]
  exact key

theorem contract (H : Type) (enc : TypeId × Value → H) (W : World) (base : Nat) (args : Array Value) (ds gs : List (DataW H)) (before : List MemPlace)
    (hval : ∀ (j : Nat) t v, Try.f7.params[j]? = some t → args[j]? = some v → Value.okWide Try.prog W .any base t v)
    (hW : DataW.Whole enc Try.prog Try.f7.params.toList Rows.diskTellsSpec.vars false W args.toList ds gs before) (hk : Rows.uptoSmall H (ds ++ gs) = true) :
    Calls Try.prog 7 args W fun e W' => ∃ v, e = .returned v ∧ Rows.diskTellsSpec.post enc Try.prog Try.f7 false true false false W args v W' := by
  have hW' := hW
  obtain ⟨p, q, hA0, hV, rfl, hfz, hnd⟩ := hW
  have hA : DataW.TrodAll enc Try.prog W 0 (fun _ => true) true Try.f7.params.toList args.toList ds p := hA0
  rw [Try.params7] at hA hval
  obtain ⟨v0, vs0, d0, ds0, p0, q0, hargs, rfl, rfl, h0, r0⟩ := trodAll_cons hA
  obtain ⟨v1, vs1, d1, ds1, p1, q1, rfl, rfl, rfl, h1, r1⟩ := trodAll_cons r0
  obtain ⟨v2, vs2, d2, ds2, p2, q2, rfl, rfl, rfl, h2, r2⟩ := trodAll_cons r1
  obtain ⟨rfl, rfl, rfl⟩ := trodAll_nil r2
  obtain rfl : args = #[v0, v1, v2] := by cases args; simp_all
  obtain ⟨rfl, rfl⟩ := trodVars_none hV
  obtain ⟨s0, rfl⟩ := okWide_array Try.underlying59 (hval 0 59 v0 rfl rfl)
  obtain ⟨s1, l1, c1, rfl⟩ := okWide_slice Try.underlying22 (hval 1 22 v1 rfl rfl)
  obtain ⟨s2, l2, c2, rfl⟩ := okWide_slice Try.underlying22 (hval 2 22 v2 rfl rfl)
  simp only [List.append_nil] at hW' hk
  have hbulk : Rows.uptoBulkAll _ ≤ 1048576 := of_decide_eq_true hk
  have k1 := h1
  have lt1 : ∀ x ∈ p1, x.block < W.heap.size := by obtain ⟨m, hm⟩ := k1; exact DataW.trod_lt m _ _ _ hm
  have vis1 : Go.Vm.VIs (Go.Vm.heap0 W) (.slice vtStep) [Go.Vm.vOf W (.slice s1 l1 c1)] := by
    obtain ⟨fuel, hf⟩ := h1
    have := Go.Vm.trod_vis fuel 30 22 (.slice vtStep) _ _ vt22 hf
    rw [Go.Vm.vOf_one W _ (fun c e => by cases e)]
    exact this
  have bk1 : Rows.uptoBulk d1 ≤ 1048576 := Nat.le_trans (bulk_part (by simp)) hbulk
  have visu1 : VIsU 1048576 (Go.Vm.heap0 W) (.slice vtStep) [Go.Vm.vOf W (.slice s1 l1 c1)] := by
    obtain ⟨fuel, hf⟩ := h1
    have := trod_visU (B := 1048576) fuel 30 22 (.slice vtStep) _ _ vt22 hf bk1
    rw [Go.Vm.vOf_one W _ (fun c e => by cases e)]
    exact this
  have k2 := h2
  have lt2 : ∀ x ∈ p2, x.block < W.heap.size := by obtain ⟨m, hm⟩ := k2; exact DataW.trod_lt m _ _ _ hm
  have vis2 : Go.Vm.VIs (Go.Vm.heap0 W) (.slice vtStep) [Go.Vm.vOf W (.slice s2 l2 c2)] := by
    obtain ⟨fuel, hf⟩ := h2
    have := Go.Vm.trod_vis fuel 30 22 (.slice vtStep) _ _ vt22 hf
    rw [Go.Vm.vOf_one W _ (fun c e => by cases e)]
    exact this
  have bk2 : Rows.uptoBulk d2 ≤ 1048576 := Nat.le_trans (bulk_part (by simp)) hbulk
  have visu2 : VIsU 1048576 (Go.Vm.heap0 W) (.slice vtStep) [Go.Vm.vOf W (.slice s2 l2 c2)] := by
    obtain ⟨fuel, hf⟩ := h2
    have := trod_visU (B := 1048576) fuel 30 22 (.slice vtStep) _ _ vt22 hf bk2
    rw [Go.Vm.vOf_one W _ (fun c e => by cases e)]
    exact this
  have k0 := h0
  have lt0 : ∀ x ∈ p0, x.block < W.heap.size := by obtain ⟨m, hm⟩ := k0; exact DataW.trod_lt m _ _ _ hm
  have vis0 : Go.Vm.VIs (Go.Vm.heap0 W) (.array 2 (.int .i64)) (s0.toList.map (Go.Vm.vOf1 W)) := by
    obtain ⟨fuel, hf⟩ := h0
    exact Go.Vm.trod_vis fuel 30 59 (.array 2 (.int .i64)) _ _ vt59 hf
  clear hA0
  refine (walk  _ _ _ W vis0 vis1 visu1 vis2 visu2).mono fun e W' ⟨he, bel⟩ => ?_
  subst he
  exact ⟨_, rfl, _, _, _, [], _, [], hW', trodAll_mk1 (shut_bool Try.underlying4 _), (trodAll_cons_mk (Below.trod laidOut (by kernel_rfl) (of_decide_eq_true (by kernel_rfl)) k0 bel lt0) (trodAll_cons_mk (Below.trod laidOut (by kernel_rfl) (of_decide_eq_true (by kernel_rfl)) k1 bel lt1) (trodAll_cons_mk (Below.trod laidOut (by kernel_rfl) (of_decide_eq_true (by kernel_rfl)) k2 bel lt2) trodAll_mk0))), rfl, bel.frame _, fun h => by cases h⟩

set_option maxRecDepth 100000 in
theorem lifted (os : Os) (started : os.Started) (H : Type) (enc : TypeId × Value → H) (F : Stop.Interp) :
    ReturnsInHanded {} Try.checked os 7 .any ((Rows.OpenSpec.upto Rows.diskTellsSpec).pre6 enc Try.prog Try.f7 Rows.diskTellsUptoRow.domain false) (((Rows.OpenSpec.upto Rows.diskTellsSpec).at F).post enc Try.prog Try.f7 false true false false) := by
  refine returnsInHanded_of_cond (C := Try.checked) (s := Rows.OpenSpec.upto Rows.diskTellsSpec) (k := Rows.uptoSmall) rfl own started (by kernel_rfl) Try.func7
    (OpenSpec.witness (enc := enc) (C := Try.checked) (s := Rows.OpenSpec.upto Rows.diskTellsSpec) (k := Rows.uptoSmall) rfl false ⟨#[], #[.agg #[.int .i64 0, .int .i64 0], .slice none 0 0, .slice none 0 0], []⟩ 8 (by kernel_rfl) (by kernel_rfl) (by kernel_rfl)
      (x := ([.agg [.lit (.int .i64 0), .lit (.int .i64 0)], .nil, .nil], [], [])) (by kernel_rfl) rfl (by kernel_rfl)) ?_
  intro W base args ds gs before hval hW _ hk _
  exact contract H enc W base args ds gs before hval hW hk

theorem proved : Rows.DiskTellsUptoSaid :=
  OpenClaim.holds_of_cond 7 Try.f7 rfl rfl rfl rfl rfl rfl rfl ⟨rfl, rfl, rfl, rfl, rfl⟩ rfl rfl rfl rfl rfl (by kernel_rfl) Try.func7 (by kernel_rfl)
    (of_decide_eq_true (by kernel_rfl)) (by unfold Func.isWrapper; first | (rw [if_pos (by decide +kernel)]; kernel_rfl) | (rw [if_neg (by decide +kernel)]; exact ⟨rfl, rfl⟩))
    (fun os started H enc _ F => lifted os started H enc F)
#print axioms proved
end Go.Proofs.Ytgkcbpagdfdpdaa.diskTells
