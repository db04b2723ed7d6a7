/- Ports: the contracts of the calls, with no word of where things lie. -/
import Derived.Test.YtmimialblhlklaaF8
set_option linter.unusedVariables false
set_option maxRecDepth 100000
namespace Go.Proofs.Ytmimialblhlklaa
open Go Go.Vm
variable {g : Heap} {R W M : Set'} {pp : Nat} {qs : List Nat} {S : AT}
theorem claim_px {S0 : Set'} {v : V} {L : List Te} (hx : PX g M pp qs S) (hv : TestsV g S0 v L) (hR : ∀ b, R b) (hW : ∀ b, M b → W b) (a : Int) : SF ⟨Try.prog, true⟩ 10 [.ptr (some (pp, 0)), .int .i64 a, v] g R W fun r g' => PXQ g g' M pp qs (claimA qs S a L) ∧ r = .tuple [.int .i64 (claimV qs S a L).1, .int .i64 (claimV qs S a L).2] := by
 have hx0 := hx
 obtain ⟨⟨I, mp, T, hp, rfl, hm⟩, hF, hl⟩ := hx
 have hcv : claimV qs (absT T) a L = claimN qs T a L := by
  unfold claimV claimN
  rw [freeA_abs]
  cases freeN T a.toNat 0 (qs.getD a.toNat 0) <;> rfl
 refine (claim_ok hp hv hR (fun b hb => hW b (hm b (.inl hb))) a).any.mono ?_
 rintro r g' ⟨hn, rfl, hq⟩
 rw [hcv]
 refine ⟨?_, rfl⟩
 unfold claimA
 rw [hcv]
 rcases hq with ⟨h1, h2⟩ | ⟨n, b, h1, h2, h3, h4, h5, h6⟩
 ·rw [if_neg h1]
  exact PXQ.same hx0 hn h2
 ·rw [h1]
  simp only [if_pos, Int.toNat_natCast]
  rw [← absT_upd T a.toNat n b]
  refine PXQ.mk hp hm h5 ?_ hn (fun k h7 h8 => h6 k h7 fun h9 => h8 (.inl h9)) (fun k hk => ?_) fun k hk => hk.imp id fun h => h.1
  ·rw [absT_upd]
   exact hF.upd ⟨h2, fun l h => by cases h⟩
  ·rcases hk with hk | ⟨a', n', y, h7⟩
   ·exact .inl (.inl hk)
   ·unfold updT at h7
    split at h7
    ·cases h7; exact .inr h4
    ·exact .inl (.inr ⟨a', n', y, h7⟩)
theorem close_px (hx : PX g M pp qs S) (hR : ∀ b, R b) (hW : ∀ b, M b → W b) (a n : Int) : SF ⟨Try.prog, true⟩ 17 [.ptr (some (pp, 0)), .int .i64 a, .int .i64 n] g R W fun r g' => PXQ g g' M pp qs (closeA S a n) ∧ r = .tuple [.int .i64 (closeV qs S a n).1, .int .i64 (closeV qs S a n).2] := by
 have hx0 := hx
 obtain ⟨⟨I, mp, T, hp, rfl, hm⟩, hF, hl⟩ := hx
 refine (close_ok hp hR (fun b hb => hW b (hm b (.inl hb))) a n).any.mono ?_
 rintro r g' ⟨hn, hq⟩
 unfold closeA closeV
 rw [lookA_abs, askA_abs]
 rcases hq with ⟨h1, h2, rfl, rfl⟩ | ⟨b, x, h1, h2, rfl, h3, h4⟩
 ·rw [h1]
  exact ⟨PXQ.same hx0 (Nat.le_refl _) fun _ _ => rfl, rfl⟩
 ·rw [h1, h2]
  refine ⟨?_, rfl⟩
  simp only [Option.map_some, Option.isSome_some, if_true]
  rw [← absT_del]
  refine PXQ.mk hp hm h3 (by rw [absT_del]; exact hF.del) hn (fun k h7 h8 => h4 k h7 fun h9 => h8 (.inl h9)) (fun k hk => .inl ?_) fun k hk => .inl hk
  rcases hk with hk | ⟨a', n', y, h7⟩
  ·exact .inl hk
  ·unfold updT at h7
   split at h7
   ·cases h7
   ·exact .inr ⟨a', n', y, h7⟩
theorem take_not {T : PT} {a n : Int} (h1 : lookE qs T a n ≠ 0) : takeB (absT T) a n = [] ∧ takeA (absT T) a n = absT T := by
 unfold takeB takeA
 rw [lookA_abs]
 unfold lookE at h1
 cases e : lookT T a n with
 | none => exact ⟨rfl, rfl⟩
 | some y =>
  rw [e] at h1
  simp only [Option.map_some]
  cases hr : y.2.ring with
  | nil => exact ⟨rfl, rfl⟩
  | cons l t => simp [hr] at h1
theorem take_yes {T : PT} {a n : Int} {b : Nat} {x : Pt} {l : List V} {t : List (List V)} (h1 : lookT T a n = some (b, x)) (h3 : x.ring = l :: t) : takeB (absT T) a n = l ∧ takeA (absT T) a n = updA (absT T) a.toNat n.toNat (some { x with ring := t }) := by
 unfold takeB takeA
 rw [lookA_abs, h1]
 simp only [Option.map_some, h3, List.headD_cons, List.tail_cons, reduceCtorEq, if_false, and_self]
theorem take_px (hx : PX g M pp qs S) (hR : ∀ b, R b) (hW : ∀ b, M b → W b) (a n : Int) : SF ⟨Try.prog, true⟩ 14 [.ptr (some (pp, 0)), .int .i64 a, .int .i64 n] g R W fun r g' => PXQ g g' M pp qs (takeA S a n) ∧ ∃ s, r = .tuple [s, .int .i64 (lookEA qs S a n)] ∧ Own g.n g' s (takeB S a n) 5 ∧ (lookEA qs S a n ≠ 0 → takeB S a n = []) := by
 have hx0 := hx
 obtain ⟨⟨I, mp, T, hp, rfl, hm⟩, hF, hl⟩ := hx
 refine (ptake_ok hp hF.of hR (fun b hb => hW b (hm b (.inl hb))) a n).any.mono ?_
 rintro r g' ⟨hn, hq⟩
 rw [lookEA_abs]
 rcases hq with ⟨h1, rfl, h2⟩ | ⟨b, x, s, l, t, h1, h2, h3, rfl, h4, h5, h6⟩
 ·obtain ⟨hb, ht⟩ := take_not h1
  rw [ht, hb]
  exact ⟨PXQ.same hx0 hn h2, _, rfl, Own.nil _ _ _, fun _ => rfl⟩
 ·obtain ⟨hb, ht⟩ := take_yes h1 h3
  rw [ht, hb, h2]
  refine ⟨?_, _, rfl, h4, fun h => absurd rfl h⟩
  obtain ⟨i1, i2, hT⟩ := lookT_some h1
  rw [← absT_upd T a.toNat n.toNat b]
  have hfx := hF.of _ _ _ _ hT
  refine PXQ.mk hp hm h5 ?_ hn (fun k h7 h8 => h6 k h7 fun h9 => h8 (.inr ⟨_, _, x, h9 ▸ hT⟩)) (fun k hk => .inl (MutB.upd hT hk)) fun k hk => .inl hk
  rw [absT_upd]
  exact hF.upd ⟨hfx.1, fun l' h => hfx.2 l' (by rw [h3]; exact List.mem_cons_of_mem _ h)⟩
theorem look_px (hx : PX g M pp qs S) (hR : ∀ b, R b) (a n : Int) : SF ⟨Try.prog, true⟩ 38 [.ptr (some (pp, 0)), .int .i64 a, .int .i64 n] g R W fun r g' => g.n ≤ g'.n ∧ (∀ k, k < g.n → g'.get k = g.get k) ∧ ∃ s, r = .tuple [s, .int .i64 (lookEA qs S a n)] ∧ Own g.n g' s (takeB S a n) 5 ∧ (lookEA qs S a n ≠ 0 → takeB S a n = []) := by
 obtain ⟨⟨I, mp, T, hp, rfl, hm⟩, hF, hl⟩ := hx
 refine (look_ok hp hF.of hR a n).any.mono ?_
 rintro r g' ⟨hk, hn, hq⟩
 refine ⟨hn, hk, ?_⟩
 rw [lookEA_abs]
 rcases hq with ⟨h1, rfl⟩ | ⟨b, x, s, l, t, h1, h2, h3, rfl, h4⟩
 ·obtain ⟨hb, _⟩ := take_not h1
  rw [hb]
  exact ⟨_, rfl, Own.nil _ _ _, fun _ => rfl⟩
 ·obtain ⟨hb, _⟩ := take_yes h1 h3
  rw [hb, h2]
  exact ⟨_, rfl, h4, fun h => absurd rfl h⟩
theorem len_px (hx : PX g M pp qs S) (hR : ∀ b, R b) (a n : Int) : SF ⟨Try.prog, true⟩ 13 [.ptr (some (pp, 0)), .int .i64 a, .int .i64 n] g R W fun r g' => r = .int .i64 (((lookA S a n).map fun x => (x.ring.length : Int)).getD 0) ∧ g' = g := by
 obtain ⟨⟨I, mp, T, hp, rfl, hm⟩, hF, hl⟩ := hx
 refine (len_ok hp hR a n).any.mono ?_
 rintro r g' ⟨rfl, rfl⟩
 rw [lookA_abs, Option.map_map]
 exact ⟨rfl, rfl⟩
theorem lost_px (hx : PX g M pp qs S) (hR : ∀ b, R b) (a n : Int) : SF ⟨Try.prog, true⟩ 26 [.ptr (some (pp, 0)), .int .i64 a, .int .i64 n] g R W fun r g' => r = .int .i64 (((lookA S a n).map fun x => x.lost).getD 0) ∧ g' = g := by
 obtain ⟨⟨I, mp, T, hp, rfl, hm⟩, hF, hl⟩ := hx
 refine (lost_ok hp hR a n).any.mono ?_
 rintro r g' ⟨rfl, rfl⟩
 rw [lookA_abs, Option.map_map]
 exact ⟨rfl, rfl⟩
theorem come_px {S0 : Set'} {v : V} {l : List V} (hx : PX g M pp qs S) (hv : LR g S0 v l) (hS : ∀ k, S0 k → k < g.n ∧ ¬ (M k ∧ Mty g k)) (hby : Byt l) (hR : ∀ b, R b) (hW : ∀ b, g.n ≤ b ∨ M b → W b) : SF ⟨Try.prog, true⟩ 12 [.ptr (some (pp, 0)), v] g R W fun r g' => PXQ g g' M pp qs (comeA S l) ∧ ∃ w, r = .tuple [w, .int .i64 (comeE l)] ∧ OwnS 2 g.n g' w (comeLA S l).length (flatC (comeLA S l)) 41 := by
 have hx0 := hx
 obtain ⟨⟨I, mp, T, hp, rfl, hm⟩, hF, hl⟩ := hx
 refine (come_dem hp hv (fun k hk => ⟨(hS k hk).1, fun a n x e => (hS k hk).2 ⟨hm k (.inl (.inr ⟨a, n, x, e⟩)), (MutB.ty hp (.inr ⟨a, n, x, e⟩)).1⟩⟩) hF.of hby hR fun b hb => hW b (hb.imp id fun h => hm b (.inl h))).mono ?_
 rintro r g' ⟨hn, hq⟩
 by_cases h64 : 64 < l.length
 ·rw [if_pos h64] at hq
  obtain ⟨rfl, hk⟩ := hq
  unfold comeA comeE comeLA
  rw [if_pos h64, if_pos h64, if_pos h64]
  exact ⟨PXQ.same hx0 hn hk, _, rfl, OwnS.nil _ _ _ _⟩
 ·rw [if_neg h64] at hq
  obtain ⟨⟨w, rfl, ho⟩, h5, h6⟩ := hq
  rw [comeLA_abs T h64, comeA_abs T h64]
  refine ⟨PXQ.mk hp hm h5 (by rw [← comeA_abs T h64]; exact hF.come hby) hn (fun k h7 h8 => h6 k h7 fun a n x e => h8 (.inr ⟨a, n, x, e⟩)) (fun k hk => .inl ?_) (fun k hk => hk.imp id fun h => h.1), w, by unfold comeE; rw [if_neg h64], ho⟩
  rcases hk with hk | ⟨a', n', y, h7⟩
  ·exact .inl hk
  ·unfold comeT at h7
   cases hh : homeP l with
   | none => rw [hh] at h7; exact .inr ⟨a', n', y, h7⟩
   | some a =>
    rw [hh] at h7
    simp only [cT] at h7
    cases hT : T a' n' with
    | none => rw [hT] at h7; cases h7
    | some z => rw [hT] at h7; cases h7; exact .inr ⟨a', n', z.2, hT⟩
theorem new_px {S0 : Set'} {v : V} {zs : List Int} (hv : LR g S0 v (zs.map (.int .i64))) (hR : ∀ b, R b) : SF ⟨Try.prog, true⟩ 24 [v] g R W fun r g' => (newOK zs = false ∧ r = .tuple [.ptr none, .int .i64 2] ∧ g' = g) ∨ (newOK zs = true ∧ ∃ pp M, r = .tuple [.ptr (some (pp, 0)), .int .i64 0] ∧ PX g' M pp (zs.map Int.toNat) (fun _ _ => none) ∧ (∀ k, M k → g.n ≤ k) ∧ g.n ≤ g'.n ∧ ∀ b, b < g.n → g'.get b = g.get b) := by
 refine (new_ok hv hR).any.mono ?_
 rintro r g' (h | ⟨h1, pp, mp, rfl, h2, h3, h4, h5⟩)
 ·exact .inl h
 ·refine .inr ⟨h1, pp, _, rfl, PX.mk' h2 (fun a n x e => (by cases e)), fun k hk => ?_, h4, h5⟩
  rcases hk with (hk | ⟨a, n, x, e⟩) | hk
  ·exact hk ▸ h3
  ·cases e
  ·exact hk.1
end Go.Proofs.Ytmimialblhlklaa
