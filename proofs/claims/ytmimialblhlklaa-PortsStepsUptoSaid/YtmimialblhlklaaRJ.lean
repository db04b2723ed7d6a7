/- Both sides: the document's calls with no word of where things lie; Copy and Same of the program. -/
import Derived.Test.YtmimialblhlklaaRI
import Derived.Test.YtmimialblhlklaaN6
set_option linter.unusedVariables false
set_option maxRecDepth 100000
namespace Go.Proofs.Ytmimialblhlklaa
open Go Go.Vm
variable {g : Heap} {R W M : Set'} {pp rd : Nat} {qs : List Nat} {S : AT}
theorem px_few (hx : PX g M pp qs S) : ∀ a n x, S a n = some x → x.ring.length ≤ 8 := by
 obtain ⟨⟨I, mp, T, hp, rfl, hm⟩, hF, hl⟩ := hx
 intro a n x e
 unfold absT at e
 cases hT : T a n with
 | none => rw [hT] at e; cases e
 | some y => rw [hT] at e; cases e; exact (hp.pt _ _ _ _ hT).len
theorem px_oks (hx : PX g M pp qs S) : OkS S := by
 have h8 := px_few hx
 have hF := hx.fit
 refine ⟨fun a n => ?_, fun a n => ?_⟩
 ·cases e : S a n with
  | none => exact ⟨by simp [ringO], fun l h => by simp [ringO] at h⟩
  | some x => exact ⟨h8 a n x e, fun l h => ((hF a n x e).2 l h).1⟩
 ·cases e : S a n with
  | none => simp [tsO]
  | some x => exact (hF a n x e).1.1
structure RX (g : Heap) (M : Set') (rd : Nat) (qs : List Nat) (S : AT) : Prop where
 ex : ∃ I bl, RPorts g I rd bl qs S ∧ ∀ k, (I k ∨ ∃ a, a < qs.length ∧ k = bl a) → M k
 lt : ∀ k, M k → k < g.n
def RXQ (g g' : Heap) (M : Set') (rd : Nat) (qs : List Nat) (S : AT) : Prop := g.n ≤ g'.n ∧ (∀ k, k < g.n → ¬ M k → g'.get k = g.get k) ∧ ∃ M', RX g' M' rd qs S ∧ ∀ k, M' k → M k ∨ g.n ≤ k
theorem RPorts.blk_lt {I : Set'} {bl : Nat → Nat} (hr : RPorts g I rd bl qs S) {k : Nat} (hk : I k ∨ ∃ a, a < qs.length ∧ k = bl a) : k < g.n := by
 rcases hk with h1 | ⟨a, ha, rfl⟩
 ·obtain ⟨c, e, h2, _⟩ := hr.imm k h1
  exact Heap.lt_of_get h2
 ·obtain ⟨c, h2, _⟩ := hr.b a _ (List.getElem?_eq_getElem ha)
  exact Heap.lt_of_get h2
theorem RX.mk' {I : Set'} {bl : Nat → Nat} (hr : RPorts g I rd bl qs S) : RX g (fun k => I k ∨ ∃ a, a < qs.length ∧ k = bl a) rd qs S := ⟨⟨I, bl, hr, fun _ h => h⟩, fun _ h => hr.blk_lt h⟩
theorem RX.same {g' : Heap} (hx : RX g M rd qs S) (hn : g.n ≤ g'.n) (hk : ∀ k, M k → g'.get k = g.get k) : RX g' M rd qs S := by
 obtain ⟨⟨I, bl, hr, hm⟩, hl⟩ := hx
 exact ⟨⟨I, bl, hr.same fun k h => hk k (hm k h), hm⟩, fun k h => Nat.lt_of_lt_of_le (hl k h) hn⟩
theorem RX.old {g' : Heap} (hx : RX g M rd qs S) (hn : g.n ≤ g'.n) (hk : ∀ k, k < g.n → g'.get k = g.get k) : RX g' M rd qs S := hx.same hn fun k h => hk k (hx.lt k h)
theorem RXQ.of {g' : Heap} {I I' : Set'} {bl : Nat → Nat} {S' : AT} (hM : ∀ k, (I k ∨ ∃ a, a < qs.length ∧ k = bl a) → M k) (hn : g.n ≤ g'.n) (hk : ∀ k, k < g.n → (∀ a, a < qs.length → k ≠ bl a) → g'.get k = g.get k) (hr' : RPorts g' I' rd bl qs S') (hI : ∀ k, I' k → I k ∨ g.n ≤ k) : RXQ g g' M rd qs S' :=
 ⟨hn, fun k h1 h2 => hk k h1 fun a ha e => h2 (hM k (.inr ⟨a, ha, e⟩)), _, RX.mk' hr', fun k h => h.elim (fun h => (hI k h).imp (fun h => hM k (.inl h)) id) fun h => .inl (hM k (.inr h))⟩
theorem claim_rx {S0 : Set'} {v : V} {L : List Te} (hx : RX g M rd qs S) (hv : TestsV g S0 v L) (hR : ∀ b, R b) (hW : ∀ b, M b → W b) (a : Int) : SF Try.prog 41 [.ptr (some (rd, 0)), .int .i64 a, v] g R W fun r g' => RXQ g g' M rd qs (claimA qs S a L) ∧ r = .tuple [.int .i64 (claimV qs S a L).1, .int .i64 (claimV qs S a L).2] := by
 obtain ⟨⟨I, bl, hr, hm⟩, hl⟩ := hx
 refine (rclaim_ok hr hv hR (fun a ha => hW _ (hm _ (.inr ⟨a, ha, rfl⟩))) a).mono ?_
 rintro r g' ⟨h1, h2, h3, I', h4, h5⟩
 exact ⟨RXQ.of hm h2 h3 h4 h5, h1⟩
theorem close_rx (hx : RX g M rd qs S) (hR : ∀ b, R b) (hW : ∀ b, M b → W b) (a n : Int) : SF Try.prog 43 [.ptr (some (rd, 0)), .int .i64 a, .int .i64 n] g R W fun r g' => RXQ g g' M rd qs (closeA S a n) ∧ r = .tuple [.int .i64 (closeV qs S a n).1, .int .i64 (closeV qs S a n).2] := by
 obtain ⟨⟨I, bl, hr, hm⟩, hl⟩ := hx
 refine (rclose_ok hr hR (fun a ha => hW _ (hm _ (.inr ⟨a, ha, rfl⟩))) a n).mono ?_
 rintro r g' ⟨h1, h2, h3, h4⟩
 exact ⟨RXQ.of hm (by omega) (fun k _ h => h3 k h) h4 (fun k h => .inl h), h1⟩
theorem take_rx (hx : RX g M rd qs S) (hR : ∀ b, R b) (hW : ∀ b, M b → W b) (a n : Int) (look : Bool) : SF Try.prog 45 [.ptr (some (rd, 0)), .int .i64 a, .int .i64 n, .bool look] g R W fun r g' => RXQ g g' M rd qs (if look then S else takeA S a n) ∧ ∃ s, r = .tuple [s, .int .i64 (lookEA qs S a n)] ∧ LR g' M s (takeB S a n) := by
 obtain ⟨⟨I, bl, hr, hm⟩, hl⟩ := hx
 refine (rtake_ok hr hR (fun a ha => hW _ (hm _ (.inr ⟨a, ha, rfl⟩))) a n look).mono ?_
 rintro r g' ⟨h1, h2, h3, s, h4, h5⟩
 exact ⟨RXQ.of hm (by omega) (fun k _ h => h2 k h) h3 (fun k h => .inl h), s, h4, h5.mono fun k _ h => hm k (.inl h)⟩
theorem come_rx {S0 : Set'} {v : V} {l : List V} (hx : RX g M rd qs S) (h8 : ∀ a n x, S a n = some x → x.ring.length ≤ 8 ∧ okF x.ts) (hv : LR g S0 v l) (hS : ∀ k, S0 k → k < g.n ∧ ¬ M k) (hby : Byt l) (hR : ∀ b, R b) (hW : ∀ b, M b → W b) : SF Try.prog 44 [.ptr (some (rd, 0)), v] g R W fun r g' => RXQ g g' M rd qs (comeA S l) ∧ ∃ w, r = .tuple [w, .int .i64 (comeE l)] ∧ OwnS 2 g.n g' w (comeLA S l).length (flatC (comeLA S l)) 41 := by
 obtain ⟨⟨I, bl, hr, hm⟩, hl⟩ := hx
 refine (rcome_ok hr h8 hv (fun k hk => ⟨(hS k hk).1, fun a ha e => (hS k hk).2 (hm k (.inr ⟨a, ha, e⟩))⟩) hby hR (fun a ha => hW _ (hm _ (.inr ⟨a, ha, rfl⟩)))).mono ?_
 rintro r g' ⟨w, h1, ⟨h2, h3, ⟨I', h4, h5⟩, h6⟩⟩
 exact ⟨RXQ.of hm h2 h3 h4 fun k h => (h5 k h).imp id fun h => h.1, w, h1, h6⟩
theorem copy_px (hx : PX g M pp qs S) (hR : ∀ b, R b) : SF ⟨Try.prog, true⟩ 25 [.ptr (some (pp, 0))] g R W fun r g' => g.n ≤ g'.n ∧ (∀ k, k < g.n → g'.get k = g.get k) ∧ ∃ pp' M', r = .ptr (some (pp', 0)) ∧ PX g' M' pp' qs S ∧ ∀ k, M' k → (M k ∧ ¬ Mty g k) ∨ g.n ≤ k := by
 obtain ⟨⟨I, mp, T, hp, rfl, hm⟩, hF, hl⟩ := hx
 refine (copy25 hp hR).mono ?_
 rintro r g' ⟨rfl, h1, h2, T2, h3, h4, h5⟩
 refine ⟨by omega, h2, _, _, rfl, by rw [← h4] at hF ⊢; exact PX.mk' h3 hF, fun k hk => ?_⟩
 rcases hk with hk | hk | hk
 ·exact .inr (h5 k hk)
 ·exact .inl ⟨hm k (.inr hk), hp.nI hk⟩
 ·exact .inr (by omega)
theorem same_px {pp' : Nat} {M' : Set'} {qs' : List Nat} {S' : AT} (hx : PX g M pp qs S) (hx' : PX g M' pp' qs' S') (hR : ∀ b, R b) : SF ⟨Try.prog, true⟩ 21 [.ptr (some (pp, 0)), .ptr (some (pp', 0))] g R W fun r g' => (∃ b, r = .bool b ∧ (b = true ↔ SameA qs qs' S S')) ∧ g.n ≤ g'.n ∧ ∀ k, k < g.n → g'.get k = g.get k := by
 obtain ⟨⟨I, mp, T, hp, rfl, hm⟩, hF, hl⟩ := hx
 obtain ⟨⟨I', mp', T', hp', rfl, hm'⟩, hF', hl'⟩ := hx'
 exact same21 hp hp' hF.of hF'.of hR
theorem sameA_refl (qs : List Nat) (S : AT) : SameA qs qs S S := ⟨rfl, fun a n => by
 unfold sameP sameR
 simp⟩
structure Both (hb g : Heap) (pp : Nat) (M : Set') (rd : Nat) (MD : Set') (qs : List Nat) (S SD : AT) : Prop where
 p : PX g M pp qs S
 d : RX g MD rd qs SD
 mp : ∀ k, M k → hb.n ≤ k
 md : ∀ k, MD k → hb.n ≤ k
 dis : ∀ k, M k → ¬ MD k
 n : hb.n ≤ g.n
 old : ∀ k, k < hb.n → g.get k = hb.get k
structure BothQ (hb g0 g : Heap) (M0 MD0 : Set') (pp : Nat) (M : Set') (rd : Nat) (MD : Set') (qs : List Nat) (S SD : AT) : Prop where
 t : Both hb g pp M rd MD qs S SD
 m : ∀ k, M k → M0 k ∨ g0.n ≤ k
 md : ∀ k, MD k → MD0 k ∨ g0.n ≤ k
 hb0 : hb.n ≤ g0.n
 n : g0.n ≤ g.n
 k : ∀ k, k < g0.n → ¬ (M0 k ∨ MD0 k) → g.get k = g0.get k
variable {hb g0 g' : Heap} {M0 MD0 MD : Set'} {SD S2 : AT}
theorem Both.q (t : Both hb g pp M rd MD qs S SD) : BothQ hb g g M MD pp M rd MD qs S SD := ⟨t, fun _ h => .inl h, fun _ h => .inl h, t.n, Nat.le_refl _, fun _ _ _ => rfl⟩
theorem BothQ.same (q : BothQ hb g0 g M0 MD0 pp M rd MD qs S SD) (hn : g.n ≤ g'.n) (hk : ∀ k, k < g.n → (k < g0.n ∨ M k ∨ MD k) → g'.get k = g.get k) : BothQ hb g0 g' M0 MD0 pp M rd MD qs S SD := by
 obtain ⟨⟨p, d, mp, md, dis, n, old⟩, qm, qmd, qb, qn, qk⟩ := q
 exact ⟨⟨p.same hn fun k h => hk k (p.lt k h) (.inr (.inl h)), d.same hn fun k h => hk k (d.lt k h) (.inr (.inr h)), mp, md, dis, Nat.le_trans n hn, fun k h => by rw [hk k (by omega) (.inl (by omega))]; exact old k h⟩, qm, qmd, qb, Nat.le_trans qn hn, fun k h1 h2 => by rw [hk k (by omega) (.inl h1)]; exact qk k h1 h2⟩
theorem BothQ.push (q : BothQ hb g0 g M0 MD0 pp M rd MD qs S SD) (hn : g.n ≤ g'.n) (hk : ∀ k, k < g.n → g'.get k = g.get k) : BothQ hb g0 g' M0 MD0 pp M rd MD qs S SD := q.same hn fun k h _ => hk k h
theorem BothQ.prog (q : BothQ hb g0 g M0 MD0 pp M rd MD qs S SD) (hq : PXQ g g' M pp qs S2) : ∃ M', BothQ hb g0 g' M0 MD0 pp M' rd MD qs S2 SD ∧ ∀ k, M' k → M k ∨ g.n ≤ k := by
 obtain ⟨⟨p, d, mp, md, dis, n, old⟩, qm, qmd, qb, qn, qk⟩ := q
 obtain ⟨hc, M', hx, hm⟩ := hq
 have hcn := hc.n
 have hkk : ∀ k, k < g.n → ¬ M k → g'.get k = g.get k := fun k h1 h2 => hc.k k h1 fun h => h2 h.1
 refine ⟨M', ⟨⟨hx, d.same hcn fun k h => hkk k (d.lt k h) fun h2 => dis k h2 h, fun k h => (hm k h).elim (mp k) fun h => by omega, md, fun k h h2 => (hm k h).elim (fun h3 => dis k h3 h2) fun h3 => by have := d.lt k h2; omega, by omega, fun k h => ?_⟩, fun k h => (hm k h).elim (qm k) fun h => .inr (by omega), qmd, qb, by omega, fun k h1 h2 => ?_⟩, hm⟩
 ·rw [hkk k (by omega) fun h2 => by have := mp k h2; omega]; exact old k h
 ·rw [hkk k (by omega) fun h3 => (qm k h3).elim (fun h => h2 (.inl h)) fun h => by omega]; exact qk k h1 h2
theorem BothQ.doc (q : BothQ hb g0 g M0 MD0 pp M rd MD qs S SD) (hq : RXQ g g' MD rd qs S2) : ∃ MD', BothQ hb g0 g' M0 MD0 pp M rd MD' qs S S2 ∧ ∀ k, MD' k → MD k ∨ g.n ≤ k := by
 obtain ⟨⟨p, d, mp, md, dis, n, old⟩, qm, qmd, qb, qn, qk⟩ := q
 obtain ⟨hcn, hkk, M', hx, hm⟩ := hq
 refine ⟨M', ⟨⟨p.same hcn fun k h => hkk k (p.lt k h) fun h2 => dis k h h2, hx, mp, fun k h => (hm k h).elim (md k) fun h => by omega, fun k h h2 => (hm k h2).elim (fun h3 => dis k h h3) fun h3 => by have := p.lt k h; omega, by omega, fun k h => ?_⟩, qm, fun k h => (hm k h).elim (qmd k) fun h => .inr (by omega), qb, by omega, fun k h1 h2 => ?_⟩, hm⟩
 ·rw [hkk k (by omega) fun h2 => by have := md k h2; omega]; exact old k h
 ·rw [hkk k (by omega) fun h3 => (qmd k h3).elim (fun h => h2 (.inr h)) fun h => by omega]; exact qk k h1 h2
theorem BothQ.at' {vf vp : V} {L : List Te} {l : List V} (q : BothQ hb g0 g M0 MD0 pp M rd MD qs S SD) (hs : StepIs hb vf vp L l) : TestsV g (fun k => k < hb.n) vf L ∧ LR g (fun k => k < hb.n) vp l ∧ Byt l := ⟨LRs.old hs.1 q.t.old, hs.2.1.old q.t.old, hs.2.2⟩
theorem take_px2 (hx : PX g M pp qs S) (hR : ∀ b, R b) (hW : ∀ b, M b → W b) (a n : Int) : SF ⟨Try.prog, true⟩ 14 [.ptr (some (pp, 0)), .int .i64 a, .int .i64 n] g R W fun r g' => Chg g g' M ∧ PX g' M pp qs (takeA S a n) ∧ ∃ s, r = .tuple [s, .int .i64 (lookEA qs S a n)] ∧ Own g.n g' s (takeB S a n) 5 ∧ (lookEA qs S a n ≠ 0 → takeB S a n = []) := by
 have hx0 := hx
 obtain ⟨⟨I, mp, T, hp, rfl, hm⟩, hF, hl⟩ := hx
 refine (ptake_ok hp hF.of hR (fun b hb => hW b (hm b (.inl hb))) a n).any.mono ?_
 rintro r g' ⟨hn, hq⟩
 rw [lookEA_abs]
 rcases hq with ⟨h1, rfl, h2⟩ | ⟨b, x, s, l, t, h1, h2, h3, rfl, h4, h5, h6⟩
 ·obtain ⟨hb, ht⟩ := take_not h1
  rw [ht, hb]
  exact ⟨Chg.old hn h2, hx0.old hn h2, _, rfl, Own.nil _ _ _, fun _ => rfl⟩
 ·obtain ⟨hb, ht⟩ := take_yes h1 h3
  rw [ht, hb, h2]
  obtain ⟨i1, i2, hT⟩ := lookT_some h1
  have hfx := hF.of _ _ _ _ hT
  refine ⟨⟨hn, fun k h7 h8 => h6 k h7 fun h9 => h8 ⟨hm k (.inl (.inr ⟨_, _, x, h9 ▸ hT⟩)), (MutB.ty hp (.inr ⟨_, _, x, h9 ▸ hT⟩)).1⟩⟩, ?_, _, rfl, h4, fun h => absurd rfl h⟩
  rw [← absT_upd T a.toNat n.toNat b]
  refine ⟨⟨I, mp, _, h5, rfl, fun k hk => hm k (hk.imp (MutB.upd hT) id)⟩, ?_, fun k hk => Nat.lt_of_lt_of_le (hl k hk) hn⟩
  rw [absT_upd]
  exact hF.upd ⟨hfx.1, fun l' h => hfx.2 l' (by rw [h3]; exact List.mem_cons_of_mem _ h)⟩
def stepS (qs : List Nat) (S : AT) (kd a n : Int) (L : List Te) (l : List V) : AT := if kd = 1 then claimA qs S a L else if kd = 2 then closeA S a n else if kd = 3 then comeA S l else if kd = 4 then takeA S a n else S
end Go.Proofs.Ytmimialblhlklaa
