/- Ports that are not there: nothing. -/
import Derived.Test.YtmimialblhlklaaN9
set_option linter.unusedVariables false
set_option maxRecDepth 100000
namespace Go.Proofs.Ytmimialblhlklaa
open Go Go.Vm
variable {h : Heap} {R W : Set'} {p : V}
def NT (h : Heap) (p : V) : Prop := p = .ptr none ∨ ∃ b c, p = .ptr (some (b, 0)) ∧ h.get b = some (.cells c 68) ∧ c.size = 2 ∧ c.get 1 = .map none
theorem NT.old {h' : Heap} (hp : NT h p) (hk : ∀ b, b < h.n → h'.get b = h.get b) : NT h' p := by
  rcases hp with h1 | ⟨b, c, h1, h2, h3⟩
  · exact .inl h1
  · exact .inr ⟨b, c, h1, (hk b (Heap.lt_of_get h2)).trans h2, h3⟩
theorem nt33 (hp : NT h p) (hR : ∀ b, R b) : SF Try.prog 33 [p] h R W fun r g => r = .bool false ∧ g = h := by
  refine SF.go hm Try.func33 ir33_eq ?_
  rcases hp with rfl | ⟨b, c, rfl, h1, h2, h3⟩
  · simp -implicitDefEqProofs (disch := (first | omega | fail)) only [go_sem, seval, ↓reduceIte, reduceCtorEq, ir33, undefV, Option.isNone_none]
  · have hRb := hR b
    simp -implicitDefEqProofs (disch := (first | omega | fail)) only [go_sem, seval, ↓reduceIte, reduceCtorEq, ir33, Option.isNone_none, h1, h2, h3, hRb]
theorem nt30 (hp : NT h p) (hR : ∀ b, R b) (a : Int) : SF Try.prog 30 [p, .int .i64 a] h R W fun r g => r = .int .i64 1 ∧ g = h := by
  refine SF.go hm Try.func30 ir30_eq ?_
  simp -implicitDefEqProofs (disch := (first | omega | fail)) only [go_sem, seval, ↓reduceIte, reduceCtorEq, ir30]
  refine GCall.of (nt33 hp (fun b => .inr (hR b))) ?_
  rintro r g ⟨rfl, rfl⟩
  simp -implicitDefEqProofs (disch := (first | omega | fail)) only [go_sem, seval, ↓reduceIte, reduceCtorEq]
theorem nt37 (hp : NT h p) (hR : ∀ b, R b) (a n : Int) : SF Try.prog 37 [p, .int .i64 a, .int .i64 n] h R W fun r g => r = .tuple [.ptr none, .int .i64 1] ∧ g = h := by
  refine SF.go hm Try.func37 ir37_eq ?_
  simp -implicitDefEqProofs (disch := (first | omega | fail)) only [go_sem, seval, ↓reduceIte, reduceCtorEq, ir37]
  refine GCall.of (nt30 hp (fun b => .inr (hR b)) a) ?_
  rintro r g ⟨rfl, rfl⟩
  simp -implicitDefEqProofs (disch := (first | omega | fail)) only [go_sem, seval, ↓reduceIte, reduceCtorEq]
theorem nt10 (hp : NT h p) (hR : ∀ b, R b) (a : Int) (v : V) : SF Try.prog 10 [p, .int .i64 a, v] h R W fun r g => r = .tuple [.int .i64 0, .int .i64 1] ∧ g = h := by
  refine SF.go hm Try.func10 ir10_eq ?_
  simp -implicitDefEqProofs (disch := (first | omega | fail)) only [go_sem, seval, ↓reduceIte, reduceCtorEq, ir10]
  refine GCall.of (nt30 hp (fun b => .inr (hR b)) a) ?_
  rintro r g ⟨rfl, rfl⟩
  simp -implicitDefEqProofs (disch := (first | omega | fail)) only [go_sem, seval, ↓reduceIte, reduceCtorEq]
theorem nt17 (hp : NT h p) (hR : ∀ b, R b) (a n : Int) : SF Try.prog 17 [p, .int .i64 a, .int .i64 n] h R W fun r g => r = .tuple [.int .i64 0, .int .i64 1] ∧ g = h := by
  refine SF.go hm Try.func17 ir17_eq ?_
  simp -implicitDefEqProofs (disch := (first | omega | fail)) only [go_sem, seval, ↓reduceIte, reduceCtorEq, ir17]
  refine GCall.of (nt37 hp (fun b => .inr (hR b)) a n) ?_
  rintro r g ⟨rfl, rfl⟩
  simp -implicitDefEqProofs (disch := (first | omega | fail)) only [go_sem, seval, ↓reduceIte, reduceCtorEq]
theorem nt12 (hp : NT h p) (hR : ∀ b, R b) (v : V) (hv : v.one = true) (hvc : v.cellsV = [v]) : SF Try.prog 12 [p, v] h R W fun r g => r = .tuple [.slice none 0 0 true, .int .i64 1] ∧ h.n ≤ g.n ∧ ∀ k, k < h.n → g.get k = h.get k := by
  refine SF.go hm Try.func12 ir12_eq ?_
  simp -implicitDefEqProofs (disch := (first | omega | fail)) only [go_sem, seval, ↓reduceIte, reduceCtorEq, ir12, ↓hvc]
  refine GCall.of (nt33 (hp.old fun b hb => by simp only [w_push_ne (Nat.ne_of_lt hb)]) (fun b => .inr (hR b))) ?_
  rintro r g ⟨rfl, rfl⟩
  simp -implicitDefEqProofs (disch := (first | omega | fail)) only [go_sem, seval, ↓reduceIte, reduceCtorEq]
  exact fun k hk => w_push_ne (by omega) _
theorem nt38 (hp : NT h p) (hR : ∀ b, R b) (a n : Int) : SF Try.prog 38 [p, .int .i64 a, .int .i64 n] h R W fun r g => r = .tuple [.slice none 0 0 true, .int .i64 1] ∧ g = h := by
  refine SF.go hm Try.func38 ir38_eq ?_
  simp -implicitDefEqProofs (disch := (first | omega | fail)) only [go_sem, seval, ↓reduceIte, reduceCtorEq, ir38]
  refine GCall.of (nt37 hp (fun b => .inr (hR b)) a n) ?_
  rintro r g ⟨rfl, rfl⟩
  simp -implicitDefEqProofs (disch := (first | omega | fail)) only [go_sem, seval, ↓reduceIte, reduceCtorEq]
theorem nt14 (hp : NT h p) (hR : ∀ b, R b) (a n : Int) : SF Try.prog 14 [p, .int .i64 a, .int .i64 n] h R W fun r g => r = .tuple [.slice none 0 0 true, .int .i64 1] ∧ g = h := by
  refine SF.go hm Try.func14 ir14_eq ?_
  simp -implicitDefEqProofs (disch := (first | omega | fail)) only [go_sem, seval, ↓reduceIte, reduceCtorEq, ir14]
  refine GCall.of (nt38 hp (fun b => .inr (hR b)) a n) ?_
  rintro r g ⟨rfl, rfl⟩
  simp -implicitDefEqProofs (disch := (first | omega | fail)) only [go_sem, seval, ↓reduceIte, reduceCtorEq]
theorem nt58 (hp : NT h p) (hR : ∀ b, R b) (a n : Int) : SF Try.prog 58 [p, .int .i64 a, .int .i64 n] h R W fun r g => r = .tuple [.slice none 0 0 true, .bool false] ∧ g = h := by
  refine SF.go hm Try.func58 ir58_eq ?_
  simp -implicitDefEqProofs (disch := (first | omega | fail)) only [go_sem, seval, ↓reduceIte, reduceCtorEq, ir58]
  refine GCall.of (nt37 hp (fun b => .inr (hR b)) a n) ?_
  rintro r g ⟨rfl, rfl⟩
  simp -implicitDefEqProofs (disch := (first | omega | fail)) only [go_sem, seval, ↓reduceIte, reduceCtorEq]
theorem nt13 (hp : NT h p) (hR : ∀ b, R b) (a n : Int) : SF Try.prog 13 [p, .int .i64 a, .int .i64 n] h R W fun r g => r = .int .i64 0 ∧ g = h := by
  refine SF.go hm Try.func13 ir13_eq ?_
  simp -implicitDefEqProofs (disch := (first | omega | fail)) only [go_sem, seval, ↓reduceIte, reduceCtorEq, ir13]
  refine GCall.of (nt37 hp (fun b => .inr (hR b)) a n) ?_
  rintro r g ⟨rfl, rfl⟩
  simp -implicitDefEqProofs (disch := (first | omega | fail)) only [go_sem, seval, ↓reduceIte, reduceCtorEq]
theorem nt26 (hp : NT h p) (hR : ∀ b, R b) (a n : Int) : SF Try.prog 26 [p, .int .i64 a, .int .i64 n] h R W fun r g => r = .int .i64 0 ∧ g = h := by
  refine SF.go hm Try.func26 ir26_eq ?_
  simp -implicitDefEqProofs (disch := (first | omega | fail)) only [go_sem, seval, ↓reduceIte, reduceCtorEq, ir26]
  refine GCall.of (nt37 hp (fun b => .inr (hR b)) a n) ?_
  rintro r g ⟨rfl, rfl⟩
  simp -implicitDefEqProofs (disch := (first | omega | fail)) only [go_sem, seval, ↓reduceIte, reduceCtorEq]
theorem nt54 (hp : NT h p) (hR : ∀ b, R b) (a : Int) : SF Try.prog 54 [p, .int .i64 a] h R W fun r g => r = .int .i64 0 ∧ g = h := by
  refine SF.go hm Try.func54 ir54_eq ?_
  simp -implicitDefEqProofs (disch := (first | omega | fail)) only [go_sem, seval, ↓reduceIte, reduceCtorEq, ir54]
  refine GCall.of (nt30 hp (fun b => .inr (hR b)) a) ?_
  rintro r g ⟨rfl, rfl⟩
  simp -implicitDefEqProofs (disch := (first | omega | fail)) only [go_sem, seval, ↓reduceIte, reduceCtorEq]
theorem nt34 (hp : NT h p) (hR : ∀ b, R b) (a : Int) : SF Try.prog 34 [p, .int .i64 a] h R W fun r g => r = .slice none 0 0 true ∧ h.n ≤ g.n ∧ ∀ k, k < h.n → g.get k = h.get k := by
  refine SF.go hm Try.func34 ir34_eq ?_
  simp -implicitDefEqProofs (disch := (first | omega | fail)) only [go_sem, seval, ↓reduceIte, reduceCtorEq, ir34]
  have kp : ∀ b, b < h.n → ((h.push (O.cells (Blk.of [V.int IntKind.i64 a]) 3)).push (O.cells (Blk.of [V.slice none 0 0 true]) 30)).get b = h.get b := fun b hb => by rw [w_push_ne (by simp; omega), w_push_ne (by omega)]
  refine GCall.of (nt33 (hp.old kp) (fun b => .inr (hR b))) ?_
  rintro r g ⟨rfl, rfl⟩
  simp -implicitDefEqProofs (disch := (first | omega | fail)) only [go_sem, seval, ↓reduceIte, reduceCtorEq]
  exact ⟨by omega, kp⟩
theorem nt25 (hp : NT h p) (hR : ∀ b, R b) : SF Try.prog 25 [p] h R W fun r g => r = .ptr none ∧ g = h := by
  refine SF.go hm Try.func25 ir25_eq ?_
  simp -implicitDefEqProofs (disch := (first | omega | fail)) only [go_sem, seval, ↓reduceIte, reduceCtorEq, ir25]
  refine GCall.of (nt33 hp (fun b => .inr (hR b))) ?_
  rintro r g ⟨rfl, rfl⟩
  simp -implicitDefEqProofs (disch := (first | omega | fail)) only [go_sem, seval, ↓reduceIte, reduceCtorEq]
theorem nt21 (hp : NT h p) (hR : ∀ b, R b) : SF Try.prog 21 [p, .ptr none] h R W fun r g => r = .bool true ∧ g = h := by
  refine SF.go hm Try.func21 ir21_eq ?_
  simp -implicitDefEqProofs (disch := (first | omega | fail)) only [go_sem, seval, ↓reduceIte, reduceCtorEq, ir21]
  refine GCall.of (nt33 hp (fun b => .inr (hR b))) ?_
  rintro r g ⟨rfl, rfl⟩
  simp -implicitDefEqProofs (disch := (first | omega | fail)) only [go_sem, seval, ↓reduceIte, reduceCtorEq, undefV]
  refine GCall.of (nt33 hp (fun b => .inr (hR b))) ?_
  rintro r g2 ⟨rfl, rfl⟩
  simp -implicitDefEqProofs (disch := (first | omega | fail)) only [go_sem, seval, ↓reduceIte, reduceCtorEq]
  refine GCall.of (nt33 (.inl rfl) (fun b => .inr (hR b))) ?_
  rintro r g3 ⟨rfl, rfl⟩
  simp -implicitDefEqProofs (disch := (first | omega | fail)) only [go_sem, seval, ↓reduceIte, reduceCtorEq]
theorem nt79 (hp : NT h p) (a n : Int) : Seq79 h p a n [] := fun b1 b2 b3 l Rr W K J hR h1 h2 h3 hK0 hkeep hround => by
  have hR1 := hR b1; have hR2 := hR b2; have hR3 := hR b3
  refine SF.go hm Try.func79 ir79_eq ?_
  rcases id hp with e | ⟨b, c, e, _⟩ <;> subst e
  all_goals
    simp -implicitDefEqProofs (disch := (first | omega | fail)) only [go_sem, seval, ↓reduceIte, reduceCtorEq, ir79, undefV, h1, h2, h3, hR1, hR2, hR3]
    refine GCall.of (nt37 hp (fun b => .inr (hR b)) a n).any ?_
    rintro r g ⟨rfl, rfl⟩
    simp -implicitDefEqProofs (disch := (first | omega | fail)) only [go_sem, seval, ↓reduceIte, reduceCtorEq]
    exact .inl hK0
set_option maxHeartbeats 4000000 in
theorem nothing27 (hp : NT h p) (hpo : p.one = true) (hpc : p.cellsV = [p]) (hpos : 0 < h.n) (hR : ∀ b, R b) : SF ⟨Try.prog, true⟩ 27 [p] h R W fun r g => r = .bool true ∧ h.n ≤ g.n ∧ ∀ k, k < h.n → g.get k = h.get k := by
  have hRR : ∀ b, h.n ≤ b ∨ R b := fun b => .inr (hR b)
  refine SF.go hm Try.func27 ir27_eq ?_
  simp -implicitDefEqProofs (disch := (first | omega | fail)) only [go_sem, seval, ↓reduceIte, reduceCtorEq, ir27]
  refine GCall.of (nt10 hp hRR 0 _).any ?_
  rintro r g ⟨rfl, rfl⟩
  simp -implicitDefEqProofs (disch := (first | omega | fail)) only [go_sem, seval, ↓reduceIte, reduceCtorEq]
  refine GCall.of (nt17 hp hRR 0 0).any ?_
  rintro r g ⟨rfl, rfl⟩
  simp -implicitDefEqProofs (disch := (first | omega | fail)) only [go_sem, seval, ↓reduceIte, reduceCtorEq]
  have kp : ∀ b, b < g.n → (g.push (O.cells (Blk.of [V.int IntKind.u8 0]) 5)).get b = g.get b := fun b hb => w_push_ne (by omega) _
  refine GCall.of (nt12 (hp.old kp) hRR _ rfl rfl).any ?_
  rintro r g1 ⟨rfl, n1, k1⟩
  simp only [Heap.n_push] at n1 k1
  have k1' : ∀ b, b < g.n → g1.get b = g.get b := fun b hb => by rw [k1 b (by omega), kp b hb]
  have hp1 := hp.old k1'
  simp -implicitDefEqProofs (disch := (first | omega | fail)) only [go_sem, seval, ↓reduceIte, reduceCtorEq]
  refine GCall.of (nt14 hp1 hRR 0 0).any ?_
  rintro r g2 ⟨rfl, rfl⟩
  simp -implicitDefEqProofs (disch := (first | omega | fail)) only [go_sem, seval, ↓reduceIte, reduceCtorEq]
  refine GCall.of (nt38 hp1 hRR 0 0).any ?_
  rintro r g3 ⟨rfl, rfl⟩
  simp -implicitDefEqProofs (disch := (first | omega | fail)) only [go_sem, seval, ↓reduceIte, reduceCtorEq]
  refine GCall.of (nt58 hp1 hRR 0 0).any ?_
  rintro r g4 ⟨rfl, rfl⟩
  simp -implicitDefEqProofs (disch := (first | omega | fail)) only [go_sem, seval, ↓reduceIte, reduceCtorEq]
  refine GCall.of (num_ok _).any ?_
  rintro r g5 ⟨rfl, rfl⟩
  simp -implicitDefEqProofs (disch := (first | omega | fail)) only [go_sem, seval, ↓reduceIte, reduceCtorEq]
  refine GCall.of (num_ok _).any ?_
  rintro r g6 ⟨rfl, rfl⟩
  simp -implicitDefEqProofs (disch := (first | omega | fail)) only [go_sem, seval, ↓reduceIte, reduceCtorEq]
  refine GCall.of (num_ok _).any ?_
  rintro r g7 ⟨rfl, rfl⟩
  simp -implicitDefEqProofs (disch := (first | omega | fail)) only [go_sem, seval, ↓reduceIte, reduceCtorEq]
  refine GCall.of (num_ok _).any ?_
  rintro r g8 ⟨rfl, rfl⟩
  simp -implicitDefEqProofs (disch := (first | omega | fail)) only [go_sem, seval, ↓reduceIte, reduceCtorEq]
  refine GCall.of (num_ok _).any ?_
  rintro r g9 ⟨rfl, rfl⟩
  simp -implicitDefEqProofs (disch := (first | omega | fail)) only [go_sem, seval, ↓reduceIte, reduceCtorEq]
  refine GCall.of (nt13 hp1 hRR 0 0).any ?_
  rintro r ga ⟨rfl, rfl⟩
  simp -implicitDefEqProofs (disch := (first | omega | fail)) only [go_sem, seval, ↓reduceIte, reduceCtorEq]
  refine GCall.of (nt26 hp1 hRR 0 0).any ?_
  rintro r gb ⟨rfl, rfl⟩
  simp -implicitDefEqProofs (disch := (first | omega | fail)) only [go_sem, seval, ↓reduceIte, reduceCtorEq]
  refine GCall.of (nt54 hp1 hRR 0).any ?_
  rintro r gc ⟨rfl, rfl⟩
  simp -implicitDefEqProofs (disch := (first | omega | fail)) only [go_sem, seval, ↓reduceIte, reduceCtorEq]
  refine GCall.of (nt34 hp1 hRR 0).any ?_
  rintro r gd ⟨rfl, nd, kd⟩
  have hpd := hp1.old kd
  simp -implicitDefEqProofs (disch := (first | omega | fail)) only [go_sem, seval, ↓reduceIte, reduceCtorEq]
  refine GCall.of (ring_gen (S2 := fun _ => True) 0 0 0 (fun g' _ hk' => nt79 (hpd.old hk') 0 0) (by simp) (fun l hl => by cases hl) hpo hpc (by omega) (.inr ⟨[], .inl ⟨rfl, .inl rfl⟩, Nat.le_refl _, rfl, fun i v e => by simp at e⟩) hRR) ?_
  rintro r ge ⟨rfl, ne, ke⟩
  have hpe := hpd.old ke
  simp -implicitDefEqProofs (disch := (first | omega | fail)) only [go_sem, seval, ↓reduceIte, reduceCtorEq]
  refine GCall.of (nt25 hpe hRR).any ?_
  rintro r gf ⟨rfl, rfl⟩
  simp -implicitDefEqProofs (disch := (first | omega | fail)) only [go_sem, seval, ↓reduceIte, reduceCtorEq, undefV]
  refine GCall.of (nt21 hpe hRR).any ?_
  rintro r gh ⟨rfl, rfl⟩
  simp -implicitDefEqProofs (disch := (first | omega | fail)) only [go_sem, seval, ↓reduceIte, reduceCtorEq]
  exact ⟨by omega, fun k hk => by rw [ke k (by omega), kd k (by omega)]; exact k1' k hk⟩
end Go.Proofs.Ytmimialblhlklaa
namespace Go.Proofs.Ytmimialblhlklaa
open Go Go.Vm
theorem src_3 : srcOk Try.prog 3 = false := by kernel_rfl
theorem inf_5 : ∃ i, Try.prog.info? 5 = some i ∧ i.size = 1 ∧ i.bytes = 1 := ⟨_, rfl, rfl, rfl⟩
theorem zve_5 : zeroV Try.prog 5 = some (.int .u8 0) := by kernel_rfl
theorem make_app {base : Option (Nat × Nat)} {sLen sCap : Nat} {ex : Bool} {k : Nat} {h : Heap} (hk : k ≤ 100000) : appendV Try.prog 36 3 (.slice base sLen sCap ex) (.int .i64 (k : Int)) h = match Nat.ble (sLen + k) sCap with
    | true => appendIn h base sLen sCap ex 1 k (List.replicate k (.int .u8 0)) []
    | false => match firstV h 1 sLen (.slice base sLen sCap ex) with
      | some (olds, rs') => match Nat.beq olds.length (sLen * 1), Nat.ble ((sLen + k) * 1) 140737488355328, Nat.ble (sLen + k) 9223372036854775807 with
        | true, true, true => appendOut h 5 base sCap ex 1 (sLen + k) olds (List.replicate k (.int .u8 0)) ([] ++ rs')
        | _, _, _ => none
      | none => none := by
  obtain ⟨i, hi, h1, h2⟩ := inf_5
  have hs : appSrcV Try.prog 3 i (.int .u8 0) (.int .i64 (k : Int)) h = some (k, List.replicate k (.int .u8 0), []) := by
    unfold appSrcV
    rw [src_3]
    simp only [Try.underlying3, V.cellsV, h1, h2, Int.toNat_natCast]
    rw [if_pos (by omega), w_beq_t (rfl : 1 = 1), w_ble_t (show k ≤ 9223372036854775807 by omega), w_ble_t (show k * 1 ≤ 140737488355328 by omega)]
  unfold appendV
  simp only [Try.underlying36, hi, zve_5, hs, List.length_replicate, h1, h2, V.cellsV, List.length_cons, List.length_nil]
  rw [w_beq_t (show k = k * 1 by omega), w_beq_t (show 0 + 1 = 1 from rfl)]
  simp only []
  cases Nat.ble (sLen + k) sCap with
  | true => rfl
  | false =>
    simp only []
    cases firstV h 1 sLen (.slice base sLen sCap ex) with
    | none => rfl
    | some r =>
      simp only []
      cases Nat.beq r.1.length (sLen * 1) <;> cases Nat.ble ((sLen + k) * 1) 140737488355328 <;> cases Nat.ble (sLen + k) 9223372036854775807 <;> rfl
theorem allOne_zero : ∀ k, allOne (List.replicate k (V.int .u8 0)) = true
  | 0 => rfl
  | k + 1 => by rw [List.replicate_succ]; simp only [allOne, V.one, allOne_zero k]
theorem app_zero {n0 k : Nat} {h : Heap} {v : V} {l : List V} (ho : Own n0 h v l 5) (hn : n0 ≤ h.n) (hk : k ≤ 100000) (hl : l.length ≤ 100000) : ∃ v' h' r w, appendV Try.prog 36 3 v (.int .i64 (k : Int)) h = some ⟨v', h', r, w⟩ ∧ Own n0 h' v' (l ++ List.replicate k (.int .u8 0)) 5 ∧ h.n ≤ h'.n ∧ (∀ b, b < n0 → h'.get b = h.get b) ∧ ∀ b ∈ w, n0 ≤ b := by
  have hrl : (List.replicate k (V.int .u8 0)).length = k := List.length_replicate
  have h1 := allOne_zero k
  rcases ho with ⟨rfl, rfl | ⟨b, c, rfl, hb0, hb, hr⟩⟩ | ⟨b, x, c, h0, rfl, hb0, hb, hs, hr, hg⟩
  · rw [make_app hk, List.nil_append]
    by_cases k0 : k = 0
    · subst k0
      exact ⟨_, _, _, _, rfl, .inl ⟨rfl, .inl rfl⟩, Nat.le_refl _, fun _ _ => rfl, fun b hb => by cases hb⟩
    · rw [w_ble_f (by omega)]
      simp only [firstV, List.length_nil]
      rw [w_beq_t (by omega), w_ble_t (by omega), w_ble_t (by omega)]
      refine ⟨_, _, _, _, rfl, .inr ⟨h.n, false, Blk.of (List.replicate k (.int .u8 0)), fun e => by have := congrArg List.length e; simp at this; omega, by rw [hrl, Nat.zero_add], hn, by rw [w_push_eq rfl]; rfl, rfl, rfl, gets_all _ rfl⟩, by simp, fun b hb => by rw [w_push_ne (by omega)], fun b hb => by cases hb⟩
  · have hlt := Heap.lt_of_get hb
    rw [make_app hk, List.nil_append]
    by_cases k0 : k = 0
    · subst k0
      rw [w_ble_t (by omega)]
      simp only [appendIn, hb, List.replicate_zero, List.length_nil, allOne, hr]
      rw [w_ble_t (by omega)]
      refine ⟨_, _, _, _, rfl, .inl ⟨rfl, .inr ⟨b, _, rfl, hb0, by rw [w_set_eq hlt rfl], by rw [Blk.ro_putA]; exact hr⟩⟩, by simp, fun b' hb' => by rw [w_set_ne hlt (by omega)], fun b' hb' => by simp at hb'; omega⟩
    · rw [w_ble_f (by omega)]
      simp only [firstV, hb]
      rw [w_ble_t (by omega)]
      simp only [Nat.zero_mul, w_gets_zero, List.length_nil]
      rw [w_beq_t rfl, w_ble_t (by omega), w_ble_t (by omega)]
      refine ⟨_, _, _, _, rfl, .inr ⟨h.n, false, Blk.of (List.replicate k (.int .u8 0)), fun e => by have := congrArg List.length e; simp at this; omega, by rw [hrl, Nat.zero_add], hn, by rw [w_push_eq rfl]; rfl, rfl, rfl, gets_all _ rfl⟩, by simp, fun b hb => by rw [w_push_ne (by omega)], fun b hb => by cases hb⟩
  · have hlt := Heap.lt_of_get hb
    rw [make_app hk]
    by_cases k0 : k = 0
    · subst k0
      rw [w_ble_t (by omega)]
      simp only [appendIn, hb, List.replicate_zero, List.length_nil, allOne, hr, List.append_nil, Nat.add_zero]
      rw [w_ble_t (by omega)]
      refine ⟨_, _, _, _, rfl, .inr ⟨b, x, c.putA (0 + l.length * 1) [], h0, rfl, hb0, by rw [w_set_eq hlt rfl], by rw [Blk.size_putA]; exact hs, by rw [Blk.ro_putA]; exact hr, ?_⟩, by simp, fun b' hb' => by rw [w_set_ne hlt (by omega)], fun b' hb' => by simp at hb'; omega⟩
      rw [Blk.putA_short _ _ (by simp)]
      exact hg
    · rw [w_ble_f (by omega)]
      simp only [firstV, hb]
      rw [w_ble_t (by omega)]
      simp only [Nat.mul_one, hg]
      rw [w_beq_t rfl, w_ble_t (by omega), w_ble_t (by omega)]
      have hne : l ++ List.replicate k (V.int .u8 0) ≠ [] := by simp [h0]
      have hll : (l ++ List.replicate k (V.int .u8 0)).length = l.length + k := by simp
      cases x with
      | true =>
        refine ⟨_, _, _, _, rfl, .inr ⟨h.n, false, Blk.of (l ++ List.replicate k (.int .u8 0)), hne, by rw [hll], hn, by rw [w_push_eq rfl], rfl, rfl, gets_all _ rfl⟩, by simp, fun b' hb' => by rw [w_push_ne (by omega)], fun b hb => by cases hb⟩
      | false =>
        simp only [appendOut, hb, h1, hr]
        rw [w_beq_t (by omega)]
        refine ⟨_, _, _, _, rfl, .inr ⟨h.n, false, Blk.of (l ++ List.replicate k (.int .u8 0)), hne, by rw [hll], hn, by rw [w_push_eq (by simp)], rfl, rfl, gets_all _ rfl⟩, by simp, fun b' hb' => by rw [w_push_ne (by rw [Heap.n_set]; omega), w_set_ne hlt (by omega)], fun b' hb' => by simp at hb'; omega⟩
end Go.Proofs.Ytmimialblhlklaa
namespace Go.Proofs.Ytmimialblhlklaa
open Go Go.Vm
variable {h : Heap} {R W M : Set'} {pp : Nat} {qs : List Nat} {S : AT}
theorem same_nil (hx : PX h M pp qs S) (hR : ∀ b, R b) : SF Try.prog 21 [.ptr (some (pp, 0)), .ptr none] h R W fun r g => r = .bool false ∧ g = h := by
  obtain ⟨⟨I, mp, T, hp, rfl, hm'⟩, hF, hl⟩ := hx
  have hRR : ∀ b, h.n ≤ b ∨ R b := fun b => .inr (hR b)
  refine SF.go hm Try.func21 ir21_eq ?_
  simp -implicitDefEqProofs (disch := (first | omega | fail)) only [go_sem, seval, ↓reduceIte, reduceCtorEq, ir21]
  refine GCall.of (there_ok hp (hRR _)) ?_
  rintro r g ⟨rfl, rfl⟩
  simp -implicitDefEqProofs (disch := (first | omega | fail)) only [go_sem, seval, ↓reduceIte, reduceCtorEq]
  refine GCall.of (nt33 (.inl rfl) hRR) ?_
  rintro r g1 ⟨rfl, rfl⟩
  simp -implicitDefEqProofs (disch := (first | omega | fail)) only [go_sem, seval, ↓reduceIte, reduceCtorEq]
  refine GCall.of (there_ok hp (hRR _)) ?_
  rintro r g2 ⟨rfl, rfl⟩
  simp -implicitDefEqProofs (disch := (first | omega | fail)) only [go_sem, seval, ↓reduceIte, reduceCtorEq]
  refine GCall.of (nt33 (.inl rfl) hRR) ?_
  rintro r g3 ⟨rfl, rfl⟩
  simp -implicitDefEqProofs (disch := (first | omega | fail)) only [go_sem, seval, ↓reduceIte, reduceCtorEq]
def z0 : List V := [.int .u8 0]
theorem byt_z0 : Byt z0 := fun v hv => by rw [List.mem_singleton.1 hv]; exact ⟨0, rfl, by decide, by decide⟩
def TK (k : Nat) (lost : Int) : AT := updA (fun _ _ => none) 0 0 (some ⟨[], List.replicate k z0, lost⟩)
theorem open_TK (k : Nat) (x : Int) : openA (TK k x) (0 : Int) = [0] := rfl
theorem come_TK {k : Nat} {x : Int} (hk : k < 8) : comeA (TK k x) z0 = TK (k + 1) x := by
  have e1 : comeA (TK k x) z0 = comeS (TK k x) 0 z0 (openA (TK k x) ((0 : Nat) : Int)) := rfl
  rw [e1, show ((0 : Nat) : Int) = 0 from rfl, open_TK]
  funext a n
  by_cases hc : a = 0 ∧ n = 0
  · obtain ⟨rfl, rfl⟩ := hc
    have e2 : comeS (TK k x) 0 z0 [0] 0 0 = some (Pt.put ⟨[], List.replicate k z0, x⟩ z0) := rfl
    have e3 : TK (k + 1) x 0 0 = some ⟨[], List.replicate (k + 1) z0, x⟩ := rfl
    rw [e2, e3]
    unfold Pt.put
    rw [if_neg (by simp; omega), List.replicate_succ']
  · unfold comeS TK updA
    rw [if_neg hc, if_neg hc]; rfl
theorem come_full : comeA (TK 8 0) z0 = TK 8 1 := by
  have e1 : comeA (TK 8 0) z0 = comeS (TK 8 0) 0 z0 (openA (TK 8 0) ((0 : Nat) : Int)) := rfl
  rw [e1, show ((0 : Nat) : Int) = 0 from rfl, open_TK]
  funext a n
  by_cases hc : a = 0 ∧ n = 0
  · obtain ⟨rfl, rfl⟩ := hc
    rfl
  · unfold comeS TK updA
    rw [if_neg hc, if_neg hc]; rfl
theorem same_TK (qs : List Nat) : ¬ SameA qs qs (TK 8 1) (TK 8 0) := fun h => by
  have h1 := h.2 0 0
  have h2 : sameP (TK 8 1 0 0) (TK 8 0 0 0) = false := rfl
  rw [h2] at h1; cases h1
def L9 : List Te := List.replicate 9 ⟨0, 0, 0⟩
theorem tests9 (g : Heap) : TestsV (g.push (.cells (Blk.rep 27 [.int .i64 0, .int .i64 0, .int .i64 0]) 79)) (fun _ => True) (.slice (some (g.n, 0)) 9 9 true) L9 := by
  refine ⟨rfl, .inr ⟨g.n, 0, 9, true, _, 79, rfl, trivial, w_push_eq rfl _, ?_, ?_⟩⟩
  · show 0 + 9 * 3 ≤ 27; omega
  · rfl
def l64 : List V := .int .u8 7 :: List.replicate 63 (.int .u8 0)
def l65 : List V := .int .u8 7 :: List.replicate 64 (.int .u8 0)
theorem byt_7 (k : Nat) : Byt (.int .u8 7 :: List.replicate k (.int .u8 0)) := fun v hv => by
  rcases List.mem_cons.1 hv with rfl | hv
  · exact ⟨7, rfl, by decide, by decide⟩
  · rw [List.eq_of_mem_replicate hv]; exact ⟨0, rfl, by decide, by decide⟩
def qs8 : List Nat := [2, 2, 2, 2, 2, 2, 2, 2]
def S7 : AT := updA (fun _ _ => none) 7 0 (some ⟨[], [], 0⟩)
theorem claim_7 : claimV qs8 (fun _ _ => none) 7 [] = (0, 0) ∧ claimA qs8 (fun _ _ => none) 7 [] = S7 := ⟨rfl, rfl⟩
theorem come_64 : (comeLA S7 l64).length = 1 ∧ comeE l64 = 0 := ⟨by kernel_rfl, by kernel_rfl⟩
theorem come_65 : comeE l65 = 3 := by kernel_rfl
theorem claim_9 (S : AT) : claimV qs8 S 0 L9 = (0, 2) := by
  unfold claimV
  rw [if_pos (by decide), if_neg (fun h => absurd h.1 (by decide))]
theorem claim_1 : claimV [1] (fun _ _ => none) 0 [] = (0, 0) ∧ claimA [1] (fun _ _ => none) 0 [] = TK 0 0 := ⟨rfl, rfl⟩
theorem nil_l0 {Q : Ex → Fr → Heap → Prop} {t : List It} {tr : Tr V} {g : Heap} {px n0 : Nat} (f : ∃ Mx, PX g Mx px [1] (TK 0 0) ∧ ∀ k, Mx k → n0 ≤ k) (hn0 : n0 ≤ g.n) (hR : ∀ b, R b) (hW : ∀ b, n0 ≤ b → W b)
    (t17 : tr.get 17 = some (.ptr (some (px, 0)))) (t19 : tr.get 19 = some (.int .i64 0))
    (hk : ∀ tr' g', tr'.get 1 = tr.get 1 → tr'.get 2 = tr.get 2 → tr'.get 4 = tr.get 4 → tr'.get 6 = tr.get 6 → tr'.get 8 = tr.get 8 → tr'.get 10 = tr.get 10 → tr'.get 11 = tr.get 11 → tr'.get 12 = tr.get 12 → tr'.get 14 = tr.get 14 → tr'.get 16 = tr.get 16 → tr'.get 17 = tr.get 17 → tr'.get 18 = tr.get 18 → (∃ Mx, PX g' Mx px [1] (TK 8 0) ∧ ∀ k, Mx k → n0 ≤ k) → n0 ≤ g'.n → (∀ k, k < n0 → g'.get k = g.get k) → resume ⟨Try.prog, true⟩ R W none Q t (.exit 0) ⟨⟨158, tr'⟩, []⟩ g') :
    GLoop ⟨Try.prog, true⟩ R W none Q ir7_l0 t ⟨⟨158, tr⟩, []⟩ g := by
  refine GLoop.inv hm (fun k f g' => f.mks = [] ∧ f.tm.n = 158 ∧ f.tm.get 17 = some (.ptr (some (px, 0))) ∧ f.tm.get 1 = tr.get 1 ∧ f.tm.get 2 = tr.get 2 ∧ f.tm.get 4 = tr.get 4 ∧ f.tm.get 6 = tr.get 6 ∧ f.tm.get 8 = tr.get 8 ∧ f.tm.get 10 = tr.get 10 ∧ f.tm.get 11 = tr.get 11 ∧ f.tm.get 12 = tr.get 12 ∧ f.tm.get 14 = tr.get 14 ∧ f.tm.get 16 = tr.get 16 ∧ f.tm.get 18 = tr.get 18 ∧ n0 ≤ g'.n ∧ (∀ k, k < n0 → g'.get k = g.get k) ∧ ∃ i : Nat, i + k = 8 ∧ f.tm.get 19 = some (.int .i64 (i : Int)) ∧ ∃ Mx, PX g' Mx px [1] (TK i 0) ∧ ∀ k, Mx k → n0 ≤ k) 8 ?_ ?_
  · exact ⟨rfl, rfl, t17, rfl, rfl, rfl, rfl, rfl, rfl, rfl, rfl, rfl, rfl, rfl, hn0, fun _ _ => rfl, 0, by omega, t19, f⟩
  rintro k ⟨⟨n', tr'⟩, mks⟩ g' ⟨hmk, hn', u17, u1, u2, u4, u6, u8, u10, u11, u12, u14, u16, u18, gn, go, i, hik, u19, Mx, hx, hM⟩
  simp only [Tm.get_mk] at hmk hn' u17 u1 u2 u4 u6 u8 u10 u11 u12 u14 u16 u18 u19
  subst hmk hn'
  by_cases hi : i < 8
  rotate_left
  · have hz : ¬ (i : Int) < 8 := by omega
    obtain rfl : i = 8 := by omega
    simp -implicitDefEqProofs (disch := (first | omega | fail)) only [go_sem, seval, ↓reduceIte, ir7_l0, u19]
    exact hk _ _ (by simp -implicitDefEqProofs (disch := (first | omega | fail)) only [go_sem, seval, ↓reduceIte, u1]) (by simp -implicitDefEqProofs (disch := (first | omega | fail)) only [go_sem, seval, ↓reduceIte, u2]) (by simp -implicitDefEqProofs (disch := (first | omega | fail)) only [go_sem, seval, ↓reduceIte, u4]) (by simp -implicitDefEqProofs (disch := (first | omega | fail)) only [go_sem, seval, ↓reduceIte, u6]) (by simp -implicitDefEqProofs (disch := (first | omega | fail)) only [go_sem, seval, ↓reduceIte, u8]) (by simp -implicitDefEqProofs (disch := (first | omega | fail)) only [go_sem, seval, ↓reduceIte, u10]) (by simp -implicitDefEqProofs (disch := (first | omega | fail)) only [go_sem, seval, ↓reduceIte, u11]) (by simp -implicitDefEqProofs (disch := (first | omega | fail)) only [go_sem, seval, ↓reduceIte, u12]) (by simp -implicitDefEqProofs (disch := (first | omega | fail)) only [go_sem, seval, ↓reduceIte, u14]) (by simp -implicitDefEqProofs (disch := (first | omega | fail)) only [go_sem, seval, ↓reduceIte, u16]) (by simp -implicitDefEqProofs (disch := (first | omega | fail)) only [go_sem, seval, ↓reduceIte, u17, t17]) (by simp -implicitDefEqProofs (disch := (first | omega | fail)) only [go_sem, seval, ↓reduceIte, u18]) ⟨Mx, hx, hM⟩ gn go
  have hz : (i : Int) < 8 := by omega
  have kp : ∀ b, b < g'.n → (g'.push (O.cells (Blk.of [V.int IntKind.u8 0]) 5)).get b = g'.get b := fun b hb => w_push_ne (by omega) _
  have hxp := hx.old (g' := g'.push (O.cells (Blk.of [V.int IntKind.u8 0]) 5)) (by simp) kp
  simp -implicitDefEqProofs (disch := (first | omega | fail)) only [go_sem, seval, ↓reduceIte, ir7_l0, u17, u19, hz]
  refine GCall.of (come_px (l := z0) hxp (LR.push g' z0 5) (fun k hk => ⟨by rw [hk]; simp, fun h => by have := hx.lt k h.1; omega⟩) byt_z0 hR (fun b h => hW b (h.elim (fun h => by simp at h; omega) (hM b)))) ?_
  rintro r g2 ⟨⟨hch, M2, hx2, hm2⟩, w, rfl, ow⟩
  have hn2 := hch.n
  simp only [Heap.n_push] at hn2 hm2
  rw [come_TK hi] at hx2
  simp -implicitDefEqProofs (disch := (first | omega | fail)) only [go_sem, seval, ↓reduceIte, u1, u2, u4, u6, u8, u10, u11, u12, u14, u16, u17, u18, u19]
  refine ⟨k - 1, by omega, by omega, fun k hk => ?_, i + 1, by omega, by simp, M2, hx2, fun k h => (hm2 k h).elim (hM k) fun h => by omega⟩
  rw [hch.k k (by simp; omega) (fun h => by have := hM k h.1; omega), kp k (by omega)]
  exact go k hk
set_option maxHeartbeats 8000000 in
theorem nil_law {h : Heap} (hpos : 0 ≤ h.n) (hR : ∀ b, R b) : SF ⟨Try.prog, true⟩ 7 [] h R W fun r g => r = .bool true := by
  have hRR : ∀ b, h.n ≤ b ∨ R b := fun b => .inr (hR b)
  refine SF.go hm Try.func7 ir7_eq ?_
  simp -implicitDefEqProofs (disch := (first | omega | fail)) only [go_sem, seval, ↓reduceIte, reduceCtorEq, ir7]
  refine GCall.of ((new_px (zs := [2, 2, 2, 2, 2, 2, 2, 2]) (LR.push h _ 3) hRR)) ?_
  rintro r g1 (⟨hno, _⟩ | ⟨_, pp, Mp, rfl, hp, hMp, n1, k1⟩)
  · exact absurd hno (by decide)
  simp only [Heap.n_push] at n1 hMp
  simp -implicitDefEqProofs (disch := (first | omega | fail)) only [go_sem, seval, ↓reduceIte, reduceCtorEq]
  refine GCall.of ((new_px (zs := [17]) (LR.push g1 _ 3) hRR)) ?_
  rintro r g2 (⟨_, rfl, hg2⟩ | ⟨hno, _⟩)
  rotate_left
  · exact absurd hno (by decide)
  have n2 : g2.n = g1.n + 1 := by rw [hg2]; simp
  have k2 : ∀ k, k < g1.n → g2.get k = g1.get k := fun k hk => by rw [hg2, w_push_ne (by omega)]
  clear hg2
  simp -implicitDefEqProofs (disch := (first | omega | fail)) only [go_sem, seval, ↓reduceIte, reduceCtorEq]
  refine GCall.of ((new_px (zs := [1, 1, 1, 1, 1, 1, 1, 1, 1]) (LR.push g2 _ 3) hRR)) ?_
  rintro r g3 (⟨_, rfl, hg3⟩ | ⟨hno, _⟩)
  rotate_left
  · exact absurd hno (by decide)
  have n3 : g3.n = g2.n + 1 := by rw [hg3]; simp
  have k3 : ∀ k, k < g2.n → g3.get k = g2.get k := fun k hk => by rw [hg3, w_push_ne (by omega)]
  clear hg3
  simp -implicitDefEqProofs (disch := (first | omega | fail)) only [go_sem, seval, ↓reduceIte, reduceCtorEq]
  refine GCall.of ((new_px (zs := [4611686018427387904, 4611686018427387904, 4611686018427387904, 4611686018427387904]) (LR.push g3 _ 3) hRR)) ?_
  rintro r g4 (⟨_, rfl, hg4⟩ | ⟨hno, _⟩)
  rotate_left
  · exact absurd hno (by decide)
  have n4 : g4.n = g3.n + 1 := by rw [hg4]; simp
  have k4 : ∀ k, k < g3.n → g4.get k = g3.get k := fun k hk => by rw [hg4, w_push_ne (by omega)]
  clear hg4
  have hp4 := hp.old (g' := g4) (by omega) fun k hk => by rw [k4 k (by omega), k3 k (by omega), k2 k hk]
  have hWM : ∀ {M : Set'}, (∀ k, M k → h.n ≤ k) → ∀ b, M b → h.n ≤ b ∨ W b := fun hM b hb => .inl (hM b hb)
  have hM0 : ∀ k, Mp k → h.n ≤ k := fun k hk => by have := hMp k hk; omega
  simp -implicitDefEqProofs (disch := (first | omega | fail)) only [go_sem, seval, ↓reduceIte, reduceCtorEq]
  refine GCall.of (claim_px (L := []) (S0 := fun _ => False) hp4 ⟨rfl, .inl ⟨rfl, .inl rfl⟩⟩ hRR (hWM hM0) 7) ?_
  rintro r g5 ⟨⟨c5, M5, hp5, hm5⟩, rfl⟩
  have n5 := c5.n
  rw [show claimA (List.map Int.toNat [2, 2, 2, 2, 2, 2, 2, 2]) (fun _ _ => none) 7 [] = S7 from claim_7.2] at hp5
  rw [show claimV (List.map Int.toNat [2, 2, 2, 2, 2, 2, 2, 2]) (fun _ _ => none) 7 [] = (0, 0) from claim_7.1]
  have hM5 : ∀ k, M5 k → h.n ≤ k := fun k hk => (hm5 k hk).elim (hM0 k) fun h => by omega
  have kp5 : ∀ k, k < g5.n → (g5.push (.cells (Blk.of [.int .u8 7]) 5)).get k = g5.get k := fun k hk => w_push_ne (by omega) _
  obtain ⟨v6, g6, r6, w6, ap6, o6, n6, k6, w6n⟩ := app_zero (n0 := g5.n) (k := 63) (h := g5.push (.cells (Blk.of [.int .u8 7]) 5)) (v := .slice (some (g5.n, 0)) 1 1 true) (l := [.int .u8 7]) (.inr ⟨g5.n, true, _, by simp, rfl, Nat.le_refl _, w_push_eq rfl _, rfl, rfl, rfl⟩) (by simp) (by omega) (by simp)
  simp only [Heap.n_push] at n6
  have k6' : ∀ k, k < g5.n → g6.get k = g5.get k := fun k hk => by rw [k6 k hk, kp5 k hk]
  have hr6 : allB (fun b => h.n ≤ b ∨ R b) r6 := allB_of fun b _ => hRR b
  have hw6 : allB (fun b => h.n ≤ b ∨ W b) w6 := allB_of fun b hb => .inl (by have := w6n b hb; omega)
  have e63 : ((63 : Nat) : Int) = 63 := rfl
  rw [e63] at ap6
  simp -implicitDefEqProofs (disch := (first | omega | fail)) only [go_sem, seval, ↓reduceIte, reduceCtorEq, ap6, hr6, hw6]
  have hp6 := hp5.old (g' := g6) (by omega) k6'
  refine GCall.of (come_px (l := l64) hp6 o6.lrf (fun k hk => ⟨by obtain ⟨_, c, e⟩ := hk; exact Heap.lt_of_get e, fun h => by have := hp5.lt k h.1; omega⟩) (byt_7 63) hRR (fun b h => .inl (h.elim (fun h => by omega) (hM5 b)))) ?_
  rintro r g7 ⟨⟨c7, M7, hp7, hm7⟩, w7, rfl, ow7⟩
  have n7 := c7.n
  rw [come_64.2]
  have hM7 : ∀ k, M7 k → h.n ≤ k := fun k hk => (hm7 k hk).elim (hM5 k) fun h => by omega
  have lw7 := ow7.lr.lenV Try.underlying37
  rw [come_64.1] at lw7
  have kp7 : ∀ k, k < g7.n → (g7.push (.cells (Blk.of [.int .u8 7]) 5)).get k = g7.get k := fun k hk => w_push_ne (by omega) _
  obtain ⟨v8, g8, r8, w8, ap8, o8, n8, k8, w8n⟩ := app_zero (n0 := g7.n) (k := 64) (h := g7.push (.cells (Blk.of [.int .u8 7]) 5)) (v := .slice (some (g7.n, 0)) 1 1 true) (l := [.int .u8 7]) (.inr ⟨g7.n, true, _, by simp, rfl, Nat.le_refl _, w_push_eq rfl _, rfl, rfl, rfl⟩) (by simp) (by omega) (by simp)
  simp only [Heap.n_push] at n8
  have k8' : ∀ k, k < g7.n → g8.get k = g7.get k := fun k hk => by rw [k8 k hk, kp7 k hk]
  have hr8 : allB (fun b => h.n ≤ b ∨ R b) r8 := allB_of fun b _ => hRR b
  have hw8 : allB (fun b => h.n ≤ b ∨ W b) w8 := allB_of fun b hb => .inl (by have := w8n b hb; omega)
  have e64 : ((64 : Nat) : Int) = 64 := rfl
  rw [e64] at ap8
  simp -implicitDefEqProofs (disch := (first | omega | fail)) only [go_sem, seval, ↓reduceIte, reduceCtorEq, ap8, hr8, hw8]
  have hp8 := hp7.old (g' := g8) (by omega) k8'
  refine GCall.of (come_px (l := l65) hp8 o8.lrf (fun k hk => ⟨by obtain ⟨_, c, e⟩ := hk; exact Heap.lt_of_get e, fun h => by have := hp7.lt k h.1; omega⟩) (byt_7 64) hRR (fun b h => .inl (h.elim (fun h => by omega) (hM7 b)))) ?_
  rintro r g9 ⟨⟨c9, M9, hp9, hm9⟩, w9, rfl, ow9⟩
  have n9 := c9.n
  rw [come_65]
  have hM9 : ∀ k, M9 k → h.n ≤ k := fun k hk => (hm9 k hk).elim (hM7 k) fun h => by omega
  have kp9 : ∀ k, k < g9.n → (g9.push (.cells (Blk.rep 27 [.int .i64 0, .int .i64 0, .int .i64 0]) 79)).get k = g9.get k := fun k hk => w_push_ne (by omega) _
  simp -implicitDefEqProofs (disch := (first | omega | fail)) only [go_sem, seval, ↓reduceIte, reduceCtorEq]
  refine GCall.of (claim_px (L := L9) (hp9.old (g' := g9.push (.cells (Blk.rep 27 [.int .i64 0, .int .i64 0, .int .i64 0]) 79)) (by simp) kp9) (tests9 g9) hRR (hWM hM9) 0) ?_
  rintro r ga ⟨⟨ca, Ma, hpa, hma⟩, rfl⟩
  have na := ca.n
  simp only [Heap.n_push] at na hma
  rw [show claimV (List.map Int.toNat [2, 2, 2, 2, 2, 2, 2, 2]) _ 0 L9 = (0, 2) from claim_9 _]
  simp -implicitDefEqProofs (disch := (first | omega | fail)) only [go_sem, seval, ↓reduceIte, reduceCtorEq]
  refine GCall.of ((new_px (zs := [1]) (LR.push ga _ 3) hRR)) ?_
  rintro r gb (⟨hno, _⟩ | ⟨_, px, Mx, rfl, hx, hMx, nb, kb⟩)
  · exact absurd hno (by decide)
  simp only [Heap.n_push] at nb hMx kb
  have kb' : ∀ k, k < ga.n → gb.get k = ga.get k := fun k hk => by rw [kb k (by omega), w_push_ne (by omega)]
  have hpb := hpa.old (g' := gb) (by omega) kb'
  have hMxh : ∀ k, Mx k → h.n ≤ k := fun k hk => by have := hMx k hk; omega
  simp -implicitDefEqProofs (disch := (first | omega | fail)) only [go_sem, seval, ↓reduceIte, reduceCtorEq]
  refine GCall.of (claim_px (L := []) (S0 := fun _ => False) hx ⟨rfl, .inl ⟨rfl, .inl rfl⟩⟩ hRR (hWM hMxh) 0) ?_
  rintro r gc ⟨⟨cc, Mc, hxc, hmc⟩, rfl⟩
  have nc := cc.n
  rw [show claimA (List.map Int.toNat [1]) (fun _ _ => none) 0 [] = TK 0 0 from claim_1.2] at hxc
  have hMc : ∀ k, Mc k → ga.n + 1 ≤ k := fun k hk => (hmc k hk).elim (hMx k) fun h => by omega
  have hpc := hpb.same (g' := gc) nc fun k hk => cc.k k (hpb.lt k hk) fun h => by have := hMx k h.1; have := hpa.lt k hk; omega
  simp -implicitDefEqProofs (disch := (first | omega | fail)) only [go_sem, seval, ↓reduceIte, reduceCtorEq]
  refine nil_l0 (n0 := ga.n + 1) (px := px) ⟨Mc, hxc, hMc⟩ (by omega) hRR (fun b hb => .inl (by omega)) (by simp -implicitDefEqProofs (disch := (first | omega | fail)) only [go_sem, seval, ↓reduceIte, reduceCtorEq]) (by simp -implicitDefEqProofs (disch := (first | omega | fail)) only [go_sem, seval, ↓reduceIte, reduceCtorEq]) ?_
  intro tr' gd u1 u2 u4 u6 u8 u10 u11 u12 u14 u16 u17 u18 ⟨Md, hxd, hMd⟩ nd kd
  replace u1 := u1.trans (show _ = some (V.ptr (some (pp, 0))) by simp -implicitDefEqProofs (disch := (first | omega | fail)) only [go_sem, seval, ↓reduceIte, reduceCtorEq])
  replace u2 := u2.trans (show _ = some (V.int .i64 0) by simp -implicitDefEqProofs (disch := (first | omega | fail)) only [go_sem, seval, ↓reduceIte, reduceCtorEq])
  replace u4 := u4.trans (show _ = some (V.int .i64 2) by simp -implicitDefEqProofs (disch := (first | omega | fail)) only [go_sem, seval, ↓reduceIte, reduceCtorEq])
  replace u6 := u6.trans (show _ = some (V.int .i64 2) by simp -implicitDefEqProofs (disch := (first | omega | fail)) only [go_sem, seval, ↓reduceIte, reduceCtorEq])
  replace u8 := u8.trans (show _ = some (V.int .i64 2) by simp -implicitDefEqProofs (disch := (first | omega | fail)) only [go_sem, seval, ↓reduceIte, reduceCtorEq])
  replace u10 := u10.trans (show _ = some (V.int .i64 0) by simp -implicitDefEqProofs (disch := (first | omega | fail)) only [go_sem, seval, ↓reduceIte, reduceCtorEq])
  replace u11 := u11.trans (show _ = some w7 by simp -implicitDefEqProofs (disch := (first | omega | fail)) only [go_sem, seval, ↓reduceIte, reduceCtorEq])
  replace u12 := u12.trans (show _ = some (V.int .i64 0) by simp -implicitDefEqProofs (disch := (first | omega | fail)) only [go_sem, seval, ↓reduceIte, reduceCtorEq])
  replace u14 := u14.trans (show _ = some (V.int .i64 3) by simp -implicitDefEqProofs (disch := (first | omega | fail)) only [go_sem, seval, ↓reduceIte, reduceCtorEq])
  replace u16 := u16.trans (show _ = some (V.int .i64 2) by simp -implicitDefEqProofs (disch := (first | omega | fail)) only [go_sem, seval, ↓reduceIte, reduceCtorEq])
  replace u17 := u17.trans (show _ = some (V.ptr (some (px, 0))) by simp -implicitDefEqProofs (disch := (first | omega | fail)) only [go_sem, seval, ↓reduceIte, reduceCtorEq])
  replace u18 := u18.trans (show _ = some (V.int .i64 0) by simp -implicitDefEqProofs (disch := (first | omega | fail)) only [go_sem, seval, ↓reduceIte, reduceCtorEq])
  simp -implicitDefEqProofs (disch := (first | omega | fail)) only [go_sem, seval, ↓reduceIte, u17]
  refine GCall.of (copy_px hxd hRR) ?_
  rintro r ge ⟨ne, ke, pz, Mz, rfl, hz, hmz⟩
  have hMty : ∀ k, Md k → Mty ge k → Mty gd k := fun k h1 h2 => by
    unfold Mty at h2 ⊢
    rw [ke k (hxd.lt k h1)] at h2; exact h2
  have kpe : ∀ k, k < ge.n → (ge.push (.cells (Blk.of [.int .u8 0]) 5)).get k = ge.get k := fun k hk => w_push_ne (by omega) _
  have f1 : Fork gd ge (ge.push (.cells (Blk.of [.int .u8 0]) 5)) Md px Md pz Mz [1] (TK 8 0) (TK 8 0) := ⟨(hxd.old ne ke).old (by simp) kpe, hz.old (by simp) kpe, fun k h => .inl h, fun k h h2 => (hmz k h).elim (fun h3 => h3.2 (hMty k h2.1 (by
    have h3 := h2.2
    unfold Mty at h3 ⊢
    rw [kpe k (hz.lt k h)] at h3; exact h3))) fun h3 => by have := hxd.lt k h2.1; omega, by simp, fun k h _ => kpe k h⟩
  simp -implicitDefEqProofs (disch := (first | omega | fail)) only [go_sem, seval, ↓reduceIte, u17]
  refine GCall.of (come_px f1.p (LR.push ge z0 5) (fun k hk => ⟨by rw [hk]; simp, fun h => by have := hxd.lt k h.1; omega⟩) byt_z0 hRR (fun b h => .inl (h.elim (fun h => by simp at h; omega) (fun h => by have := hMd b h; omega)))) ?_
  rintro r gf ⟨hqf, wf, rfl, owf⟩
  obtain ⟨Mf, f2⟩ := f1.step hqf
  have nf := f2.n
  have kf : ∀ k, k < ga.n → gf.get k = gd.get k := fun k hk => by rw [f2.k k (by omega) fun h => by have := hMd k h; omega]; exact ke k (by omega)
  have hpd := hpa.same (g' := gd) (by omega) fun k hk => by
    have := hpa.lt k hk
    rw [kd k (by omega), cc.k k (by omega) (fun h => by have := hMx k h.1; omega), kb' k this]
  have hpf := hpd.same (g' := gf) (by omega) fun k hk => kf k (hpa.lt k hk)
  rw [come_full] at f2
  simp -implicitDefEqProofs (disch := (first | omega | fail)) only [go_sem, seval, ↓reduceIte, u18]
  refine GCall.of (num_ok 0).any ?_
  rintro r g ⟨rfl, rfl⟩
  simp -implicitDefEqProofs (disch := (first | omega | fail)) only [go_sem, seval, ↓reduceIte, u17]
  refine GCall.of (same_px f2.p f2.c hRR) ?_
  rintro r gg ⟨⟨b, rfl, hb⟩, ng, kg⟩
  obtain rfl : b = false := by
    cases b
    · rfl
    · exact absurd (hb.1 rfl) (same_TK _)
  have hxg := f2.p.old ng kg
  have hpg := hpf.old (by omega) kg
  simp -implicitDefEqProofs (disch := (first | omega | fail)) only [go_sem, seval, ↓reduceIte, u17]
  refine GCall.of (lost_px hxg hRR 0 0) ?_
  rintro r g ⟨rfl, rfl⟩
  rw [show ((lookA (TK 8 1) 0 0).map fun x => x.lost).getD 0 = 1 from rfl]
  simp -implicitDefEqProofs (disch := (first | omega | fail)) only [go_sem, seval, ↓reduceIte, u17]
  refine GCall.of (len_px hxg hRR 0 0) ?_
  rintro r g ⟨rfl, rfl⟩
  rw [show ((lookA (TK 8 1) 0 0).map fun x => (x.ring.length : Int)).getD 0 = 8 from rfl]
  simp -implicitDefEqProofs (disch := (first | omega | fail)) only [go_sem, seval, ↓reduceIte, u2]
  refine GCall.of (num_ok 0).any ?_
  rintro r g ⟨rfl, rfl⟩
  simp -implicitDefEqProofs (disch := (first | omega | fail)) only [go_sem, seval, ↓reduceIte, u10]
  refine GCall.of (num_ok 0).any ?_
  rintro r g ⟨rfl, rfl⟩
  simp -implicitDefEqProofs (disch := (first | omega | fail)) only [go_sem, seval, ↓reduceIte, u12]
  refine GCall.of (num_ok 0).any ?_
  rintro r g ⟨rfl, rfl⟩
  simp -implicitDefEqProofs (disch := (first | omega | fail)) only [go_sem, seval, ↓reduceIte, u4]
  refine GCall.of (num_ok 2).any ?_
  rintro r g ⟨rfl, rfl⟩
  simp -implicitDefEqProofs (disch := (first | omega | fail)) only [go_sem, seval, ↓reduceIte, u6]
  refine GCall.of (num_ok 2).any ?_
  rintro r g ⟨rfl, rfl⟩
  simp -implicitDefEqProofs (disch := (first | omega | fail)) only [go_sem, seval, ↓reduceIte, u8]
  refine GCall.of (num_ok 2).any ?_
  rintro r g ⟨rfl, rfl⟩
  simp -implicitDefEqProofs (disch := (first | omega | fail)) only [go_sem, seval, ↓reduceIte, ↓lw7, u11, u14]
  refine GCall.of (num_ok 3).any ?_
  rintro r g ⟨rfl, rfl⟩
  simp -implicitDefEqProofs (disch := (first | omega | fail)) only [go_sem, seval, ↓reduceIte, u16]
  refine GCall.of (num_ok 2).any ?_
  rintro r g ⟨rfl, rfl⟩
  simp -implicitDefEqProofs (disch := (first | omega | fail)) only [go_sem, seval, ↓reduceIte]
  refine GCall.of (nothing27 (.inl rfl) rfl rfl (by omega) hRR) ?_
  rintro r gh ⟨rfl, nh, kh⟩
  simp -implicitDefEqProofs (disch := (first | omega | fail)) only [go_sem, seval, ↓reduceIte]
  refine GCall.of (nothing27 (.inr ⟨_, _, rfl, w_push_eq rfl _, rfl, rfl⟩) rfl rfl (by simp) hRR) ?_
  rintro r gi ⟨rfl, ni, ki⟩
  simp only [Heap.n_push] at ni
  have hpi := (hpg.old nh kh).old (g' := gi) (by omega) fun k hk => by rw [ki k (by simp; omega), w_push_ne (by omega)]
  simp -implicitDefEqProofs (disch := (first | omega | fail)) only [go_sem, seval, ↓reduceIte, u1]
  refine GCall.of (same_nil hpi hRR).any ?_
  rintro r g ⟨rfl, rfl⟩
  simp -implicitDefEqProofs (disch := (first | omega | fail)) only [go_sem, seval, ↓reduceIte]
  refine GCall.of (known_dem hRR) ?_
  rintro r gj ⟨rfl, _, _⟩
  simp -implicitDefEqProofs (disch := (first | omega | fail)) only [go_sem, seval, ↓reduceIte]
end Go.Proofs.Ytmimialblhlklaa
