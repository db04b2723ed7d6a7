/- known. -/
import Derived.Test.YtmimialblhlklaaG3
set_option linter.unusedVariables false
set_option maxRecDepth 100000
namespace Go.Proofs.Ytmimialblhlklaa
open Go Go.Vm
variable {h : Heap} {R W I : Set'}
theorem LR.push (g : Heap) (l : List V) (e : TypeId) : LR (g.push (.cells (Blk.of l) e)) (fun k => k = g.n) (.slice (some (g.n, 0)) l.length l.length true) l := .inr ⟨g.n, 0, _, _, _, e, rfl, rfl, w_push_eq rfl _, by simp [Blk.of], by
 apply List.ext_getElem?
 intro j
 by_cases hj : j < l.length
 ·rw [Blk.gets_get _ _ _ _ hj, Nat.zero_add, Blk.get_of _ _ hj, List.getElem?_eq_getElem hj]
  simp [hj]
 ·rw [List.getElem?_eq_none (by rw [Blk.length_gets]; omega), List.getElem?_eq_none (by omega)]⟩
theorem LR.chg {g g' : Heap} {S M : Set'} {v : V} {l : List V} (hv : LR g S v l) (hS : ∀ k, S k → ¬ Mty g k) (hf : Chg g g' M) : LR g' S v l := hv.same fun k h1 h2 => hf.k k h2 fun h => hS k h1 h.2
theorem LRs.chg {sz n : Nat} {g g' : Heap} {S M : Set'} {v : V} {l : List V} (hv : LRs sz g S v n l) (hS : ∀ k, S k → ¬ Mty g k) (hf : Chg g g' M) : LRs sz g' S v n l := LRs.same hv fun k h1 h2 => hf.k k h2 fun h => hS k h1 h.2
theorem Mty.cells {g : Heap} {k e : Nat} {c : Blk} (h : g.get k = some (.cells c e)) (he : e ≠ 82) : ¬ Mty g k := by
 rintro (⟨c', h3⟩ | ⟨es, ck, h3⟩)
 ·rw [h] at h3; cases h3; exact he rfl
 ·rw [h] at h3; cases h3
theorem Chg.cells {g g' : Heap} {M : Set'} {k e : Nat} {c : Blk} (hf : Chg g g' M) (h1 : g.get k = some (.cells c e)) (he : e ≠ 82) : g'.get k = some (.cells c e) := by
 rw [hf.k k (Heap.lt_of_get h1) fun h => Mty.cells h1 he h.2]; exact h1
theorem come_lit {g : Heap} {M : Set'} {pp : Nat} {qs : List Nat} {S : AT} (hx : PX g M pp qs S) (l : List V) (hby : Byt l) (hR : ∀ b, R b) (hW : ∀ b, g.n ≤ b ∨ M b → W b) : SF ⟨Try.prog, true⟩ 12 [.ptr (some (pp, 0)), .slice (some (g.n, 0)) l.length l.length true] (g.push (.cells (Blk.of l) 5)) R W fun r g' => PXQ g g' M pp qs (comeA S l) ∧ ∃ w, r = .tuple [w, .int .i64 (comeE l)] ∧ OwnS 2 g.n g' w (comeLA S l).length (flatC (comeLA S l)) 41 := by
 have kp : ∀ k, k < g.n → (g.push (.cells (Blk.of l) 5)).get k = g.get k := fun k hk => w_push_ne (by omega) _
 refine (come_px (hx.old (by simp) kp) (LR.push g l 5) (fun k hk => ⟨by rw [hk]; simp, fun h => by have := hx.lt k h.1; omega⟩) hby hR fun b hb => hW b (hb.imp (fun h => by simp at h; omega) id)).mono ?_
 rintro r g' ⟨⟨hc, M', hx', hM'⟩, w, rfl, ho⟩
 have hn := hc.n
 simp only [Heap.n_push] at hn hM'
 exact ⟨⟨⟨by omega, fun k hk hm => by rw [hc.k k (by simp; omega) (fun h => hm ⟨h.1, by have := h.2; unfold Mty at this ⊢; rw [kp k hk] at this; exact this⟩), kp k hk]⟩, M', hx', fun k hk => (hM' k hk).imp id fun h => by omega⟩, w, rfl, ho.mono (by simp)⟩
def iterC (S : AT) : Nat → AT
 | 0 => S
 | n + 1 => comeA (iterC S n) [.int .u8 0]
theorem byt1 {a : Int} (h0 : 0 ≤ a) (h1 : a ≤ 255) : Byt [.int .u8 a] := fun v hv => by
 rcases List.mem_cons.1 hv with rfl | hv
 ·exact ⟨a, rfl, h0, h1⟩
 ·cases hv
theorem byt2 {a b : Int} (h0 : 0 ≤ a) (h1 : a ≤ 255) (h2 : 0 ≤ b) (h3 : b ≤ 255) : Byt [.int .u8 a, .int .u8 b] := fun v hv => by
 rcases List.mem_cons.1 hv with rfl | hv
 ·exact ⟨a, rfl, h0, h1⟩
 ·rcases List.mem_cons.1 hv with rfl | hv
  ·exact ⟨b, rfl, h2, h3⟩
  ·cases hv
set_option maxHeartbeats 2000000 in
theorem known_loop {Q : Ex → Fr → Heap → Prop} {t : List It} {g0 : Heap} {M0 : Set'} {pp n0 : Nat} {qs : List Nat} {S0 : AT} {tr0 : Tr V} (hx : PX g0 M0 pp qs S0) (hM : ∀ k, M0 k → n0 ≤ k) (hn0 : n0 ≤ g0.n) (hR : ∀ b, R b) (hW : ∀ b, n0 ≤ b → W b) (t5 : tr0.get 5 = some (.ptr (some (pp, 0)))) (t29 : tr0.get 29 = some (.int .i64 0))
  (hk : ∀ tr g M, (∀ i, i < 29 → tr.get i = tr0.get i) → PX g M pp qs (iterC S0 8) → Chg g0 g (fun k => n0 ≤ k) → resume ⟨Try.prog, true⟩ R W none Q t (.exit 0) ⟨⟨206, tr⟩, []⟩ g) : GLoop ⟨Try.prog, true⟩ R W none Q ir8_l0 t ⟨⟨206, tr0⟩, []⟩ g0 := by
 refine GLoop.inv hm (fun k f g => f.mks = [] ∧ f.tm.n = 206 ∧ (∀ i, i < 29 → f.tm.get i = tr0.get i) ∧ ∃ (i : Nat) (M : Set'), i + k = 8 ∧ f.tm.get 29 = some (.int .i64 (i : Int)) ∧ PX g M pp qs (iterC S0 i) ∧ (∀ k, M k → n0 ≤ k) ∧ Chg g0 g (fun k => n0 ≤ k)) 8 ?_ ?_
 ·exact ⟨rfl, rfl, fun i _ => rfl, 0, M0, by omega, t29, hx, hM, Chg.old (Nat.le_refl _) fun _ _ => rfl⟩
 rintro k ⟨⟨n', tr⟩, mks⟩ g ⟨hmk, hn', hti, i, M, hik, u29, hxi, hMi, hci⟩
 simp only [Tm.get_mk] at hmk hn' hti u29
 subst hmk hn'
 have hn1 := hci.n
 have u5 := (hti 5 (by omega)).trans t5
 by_cases h8 : (i : Int) < 8
 ·simp -implicitDefEqProofs (disch := (first | omega | fail)) only [go_sem, seval, ↓reduceIte, ir8_l0, u5, u29, h8]
  refine GCall.of (come_lit hxi [.int .u8 0] (byt1 (by omega) (by omega)) hR (fun b hb => hW b (hb.elim (fun h => by omega) (hMi b)))) ?_
  rintro r g2 ⟨⟨hc, M2, hx2, hM2⟩, w, rfl, _⟩
  simp -implicitDefEqProofs (disch := (first | omega | fail)) only [go_sem, seval, ↓reduceIte, u29]
  refine ⟨k - 1, by omega, fun j hj => ?_, i + 1, M2, by omega, by simp, hx2, fun k hk => (hM2 k hk).elim (hMi k) fun h => by omega, hci.trans (hc.mono hMi)⟩
  rw [← hti j hj]
  repeat rw [Tr.get_put _ _ _ _ _ (by omega)]
  repeat rw [if_neg (by omega)]
 ·obtain rfl : i = 8 := by omega
  simp -implicitDefEqProofs (disch := (first | omega | fail)) only [go_sem, seval, ↓reduceIte, ir8_l0, u29]
  refine hk _ g M (fun j hj => ?_) hxi hci
  rw [← hti j hj]
  repeat rw [Tr.get_put _ _ _ _ _ (by omega), if_neg (by omega)]
def p07 : List V := [.int .u8 0, .int .u8 7]
def k1 : AT := claimA [2, 1] (fun _ _ => none) 0 []
def k2 : AT := claimA [2, 1] k1 0 []
def k3 : AT := claimA [2, 1] k2 0 []
def k4 : AT := claimA [2, 1] k3 2 []
def k5 : AT := comeA k4 p07
def k6 : AT := takeA k5 0 0
def k7 : AT := takeA k6 0 0
def k8 : AT := closeA k7 0 0
def k9 : AT := comeA k8 [.int .u8 1, .int .u8 5]
def k10 : AT := comeA k9 []
def k11 : AT := comeA k10 [.int .u8 9]
theorem f1 : claimV [2, 1] (fun _ _ => none) 0 [] = (0, 0) := by kernel_rfl
theorem f2 : claimV [2, 1] k1 0 [] = (1, 0) := by kernel_rfl
theorem f3 : claimV [2, 1] k2 0 [] = (0, 5) := by kernel_rfl
theorem f4 : claimV [2, 1] k3 2 [] = (0, 2) := by kernel_rfl
theorem f5 : comeLA k4 p07 = [(0, false), (1, false)] ∧ comeE p07 = 0 := ⟨by kernel_rfl, by kernel_rfl⟩
theorem f6 : lookEA [2, 1] k5 0 0 = 0 ∧ takeB k5 0 0 = p07 := ⟨by kernel_rfl, by kernel_rfl⟩
theorem f7 : lookEA [2, 1] k6 0 0 = 6 := by kernel_rfl
theorem f8 : closeV [2, 1] k7 0 0 = (0, 0) := by kernel_rfl
theorem f9 : comeLA k8 [.int .u8 1, .int .u8 5] = [] ∧ comeE [.int .u8 1, .int .u8 5] = 0 := ⟨by kernel_rfl, by kernel_rfl⟩
theorem f10 : comeLA k9 [] = [] ∧ comeE [] = 0 := ⟨by kernel_rfl, by kernel_rfl⟩
theorem f11 : comeLA k10 [.int .u8 9] = [] ∧ comeE [.int .u8 9] = 0 := ⟨by kernel_rfl, by kernel_rfl⟩
theorem f12 : ((lookA (iterC k11 8) 0 1).map fun x => (x.ring.length : Int)).getD 0 = 8 ∧ ((lookA (iterC k11 8) 0 1).map fun x => x.lost).getD 0 = 1 := ⟨by kernel_rfl, by kernel_rfl⟩
theorem s07 : strB p07 = { data := #[0, 7] } := by kernel_rfl
theorem e07 : strBin .eql { data := #[0, 7] } { data := #[0, 7] } = some (.bool true) := by kernel_rfl
set_option maxHeartbeats 8000000 in
theorem known_0 (hR : ∀ b, R b) : SF ⟨Try.prog, true⟩ 8 [] h R (fun _ => False) fun r g => r = .bool true := by
 refine SF.go hm Try.func8 ir8_eq ?_
 have hRR : ∀ b, h.n ≤ b ∨ R b := fun b => .inr (hR b)
 have hWW : ∀ b, h.n ≤ b → h.n ≤ b ∨ False := fun b hb => .inl hb
 simp -implicitDefEqProofs (disch := (first | omega | fail)) only [go_sem, seval, ↓reduceIte, reduceCtorEq, ir8]
 refine GCall.of (new_px (zs := [9, 8]) (LR.push _ _ _) hRR) ?_
 rintro r g0 (⟨_, rfl, rfl⟩ | ⟨hno, _⟩)
 rotate_left
 ·exact absurd hno (by decide)
 simp -implicitDefEqProofs (disch := (first | omega | fail)) only [go_sem, seval, ↓reduceIte, reduceCtorEq]
 refine GCall.of (new_px (zs := []) (S0 := fun _ => False) (.inl ⟨rfl, .inl rfl⟩) hRR) ?_
 rintro r g1 (⟨_, rfl, rfl⟩ | ⟨hno, _⟩)
 rotate_left
 ·exact absurd hno (by decide)
 simp -implicitDefEqProofs (disch := (first | omega | fail)) only [go_sem, seval, ↓reduceIte, reduceCtorEq]
 refine GCall.of (new_px (zs := [2, 1]) (LR.push _ _ _) hRR) ?_
 rintro r g2 (⟨hno, _⟩ | ⟨_, pp, M, rfl, hx, hM, hn, hk⟩)
 ·exact absurd hno (by decide)
 simp only [Heap.n_push] at hM hn
 have hx : PX g2 M pp [2, 1] (fun _ _ => none) := hx
 have hM : ∀ k, M k → h.n ≤ k := fun k hk => by have := hM k hk; omega
 have hn : h.n ≤ g2.n := by omega
 clear hk
 simp -implicitDefEqProofs (disch := (first | omega | fail)) only [go_sem, seval, ↓reduceIte, reduceCtorEq]
 refine GCall.of (claim_px (S0 := fun _ => False) (L := []) hx ⟨rfl, .inl ⟨rfl, .inl rfl⟩⟩ hRR (fun b hb => hM b hb) 0) ?_
 rintro r g1 ⟨⟨hc, M2, hx2, hM2⟩, rfl⟩
 rw [f1]
 have hM : ∀ k, M2 k → h.n ≤ k := fun k hk => (hM2 k hk).elim (hM k) fun h => by omega
 have hn' := hc.n
 have hx : PX g1 M2 pp [2, 1] k1 := hx2
 have hn : h.n ≤ g1.n := by omega
 clear hx2 hM2 hn' hc
 simp -implicitDefEqProofs (disch := (first | omega | fail)) only [go_sem, seval, ↓reduceIte, reduceCtorEq]
 refine GCall.of (claim_px (S0 := fun _ => False) (L := []) hx ⟨rfl, .inl ⟨rfl, .inl rfl⟩⟩ hRR (fun b hb => hM b hb) 0) ?_
 rintro r g2 ⟨⟨hc, M2, hx2, hM2⟩, rfl⟩
 rw [f2]
 have hM : ∀ k, M2 k → h.n ≤ k := fun k hk => (hM2 k hk).elim (hM k) fun h => by omega
 have hn' := hc.n
 have hx : PX g2 M2 pp [2, 1] k2 := hx2
 have hn : h.n ≤ g2.n := by omega
 clear hx2 hM2 hn' hc
 simp -implicitDefEqProofs (disch := (first | omega | fail)) only [go_sem, seval, ↓reduceIte, reduceCtorEq]
 refine GCall.of (claim_px (S0 := fun _ => False) (L := []) hx ⟨rfl, .inl ⟨rfl, .inl rfl⟩⟩ hRR (fun b hb => hM b hb) 0) ?_
 rintro r g3 ⟨⟨hc, M2, hx2, hM2⟩, rfl⟩
 rw [f3]
 have hM : ∀ k, M2 k → h.n ≤ k := fun k hk => (hM2 k hk).elim (hM k) fun h => by omega
 have hn' := hc.n
 have hx : PX g3 M2 pp [2, 1] k3 := hx2
 have hn : h.n ≤ g3.n := by omega
 clear hx2 hM2 hn' hc
 simp -implicitDefEqProofs (disch := (first | omega | fail)) only [go_sem, seval, ↓reduceIte, reduceCtorEq]
 refine GCall.of (claim_px (S0 := fun _ => False) (L := []) hx ⟨rfl, .inl ⟨rfl, .inl rfl⟩⟩ hRR (fun b hb => hM b hb) 2) ?_
 rintro r g4 ⟨⟨hc, M2, hx2, hM2⟩, rfl⟩
 rw [f4]
 have hM : ∀ k, M2 k → h.n ≤ k := fun k hk => (hM2 k hk).elim (hM k) fun h => by omega
 have hn' := hc.n
 have hx : PX g4 M2 pp [2, 1] k4 := hx2
 have hn : h.n ≤ g4.n := by omega
 clear hx2 hM2 hn' hc
 simp -implicitDefEqProofs (disch := (first | omega | fail)) only [go_sem, seval, ↓reduceIte, reduceCtorEq]
 refine GCall.of (come_lit hx p07 (byt2 (by omega) (by omega) (by omega) (by omega)) hRR (fun b hb => hb.elim (fun h => by omega) (hM b))) ?_
 rintro r g5 ⟨⟨hc, M2, hx2, hM2⟩, w15, rfl, ho15⟩
 rw [f5.1] at ho15
 rw [f5.2]
 have hM : ∀ k, M2 k → h.n ≤ k := fun k hk => (hM2 k hk).elim (hM k) fun h => by omega
 have hn' := hc.n
 have hx : PX g5 M2 pp [2, 1] k5 := hx2
 have hn : h.n ≤ g5.n := by omega
 clear hx2 hM2 hn' hc
 simp -implicitDefEqProofs (disch := (first | omega | fail)) only [go_sem, seval, ↓reduceIte, reduceCtorEq]
 refine GCall.of (take_px hx hRR (fun b hb => hM b hb) 0 0) ?_
 rintro r g6 ⟨⟨hc, M2, hx2, hM2⟩, w17, rfl, ho17, _⟩
 rw [f6.2] at ho17
 rw [f6.1]
 have ho15 := ho15.keep fun b c h1 _ => hc.cells h1 (by decide)
 have hM : ∀ k, M2 k → h.n ≤ k := fun k hk => (hM2 k hk).elim (hM k) fun h => by omega
 have hn' := hc.n
 have hx : PX g6 M2 pp [2, 1] k6 := hx2
 have hn : h.n ≤ g6.n := by omega
 clear hx2 hM2 hn' hc
 simp -implicitDefEqProofs (disch := (first | omega | fail)) only [go_sem, seval, ↓reduceIte, reduceCtorEq]
 refine GCall.of (take_px hx hRR (fun b hb => hM b hb) 0 0) ?_
 rintro r g7 ⟨⟨hc, M2, hx2, hM2⟩, w19, rfl, _, _⟩
 rw [f7]
 have hM : ∀ k, M2 k → h.n ≤ k := fun k hk => (hM2 k hk).elim (hM k) fun h => by omega
 have hn' := hc.n
 have hx : PX g7 M2 pp [2, 1] k7 := hx2
 have ho15 := ho15.keep fun b c h1 _ => hc.cells h1 (by decide)
 have ho17 := ho17.keep fun b c h1 => hc.cells h1 (by decide)
 have hn : h.n ≤ g7.n := by omega
 clear hx2 hM2 hn' hc
 simp -implicitDefEqProofs (disch := (first | omega | fail)) only [go_sem, seval, ↓reduceIte, reduceCtorEq]
 refine GCall.of (close_px hx hRR (fun b hb => hM b hb) 0 0) ?_
 rintro r g8 ⟨⟨hc, M2, hx2, hM2⟩, rfl⟩
 rw [f8]
 have hM : ∀ k, M2 k → h.n ≤ k := fun k hk => (hM2 k hk).elim (hM k) fun h => by omega
 have hn' := hc.n
 have hx : PX g8 M2 pp [2, 1] k8 := hx2
 have ho15 := ho15.keep fun b c h1 _ => hc.cells h1 (by decide)
 have ho17 := ho17.keep fun b c h1 => hc.cells h1 (by decide)
 have hn : h.n ≤ g8.n := by omega
 clear hx2 hM2 hn' hc
 simp -implicitDefEqProofs (disch := (first | omega | fail)) only [go_sem, seval, ↓reduceIte, reduceCtorEq]
 refine GCall.of (come_lit hx [.int .u8 1, .int .u8 5] (byt2 (by omega) (by omega) (by omega) (by omega)) hRR (fun b hb => hb.elim (fun h => by omega) (hM b))) ?_
 rintro r g9 ⟨⟨hc, M2, hx2, hM2⟩, w23, rfl, ho23⟩
 rw [f9.1] at ho23
 rw [f9.2]
 have hl23 := ho23.lrf.lenV Try.underlying37
 have hM : ∀ k, M2 k → h.n ≤ k := fun k hk => (hM2 k hk).elim (hM k) fun h => by omega
 have hn' := hc.n
 have hx : PX g9 M2 pp [2, 1] k9 := hx2
 have ho15 := ho15.keep fun b c h1 _ => hc.cells h1 (by decide)
 have ho17 := ho17.keep fun b c h1 => hc.cells h1 (by decide)
 have hn : h.n ≤ g9.n := by omega
 clear hx2 hM2 hn' hc
 simp -implicitDefEqProofs (disch := (first | omega | fail)) only [go_sem, seval, ↓reduceIte, reduceCtorEq]
 refine GCall.of (come_px (S0 := fun _ => False) (l := []) hx (.inl ⟨rfl, .inl rfl⟩) (fun k hk => hk.elim) (fun v hv => by cases hv) hRR (fun b hb => hb.elim (fun h => by omega) (hM b))) ?_
 rintro r g10 ⟨⟨hc, M2, hx2, hM2⟩, w25, rfl, ho25⟩
 rw [f10.1] at ho25
 rw [f10.2]
 have hl25 := ho25.lrf.lenV Try.underlying37
 have hM : ∀ k, M2 k → h.n ≤ k := fun k hk => (hM2 k hk).elim (hM k) fun h => by omega
 have hn' := hc.n
 have hx : PX g10 M2 pp [2, 1] k10 := hx2
 have ho15 := ho15.keep fun b c h1 _ => hc.cells h1 (by decide)
 have ho17 := ho17.keep fun b c h1 => hc.cells h1 (by decide)
 have hn : h.n ≤ g10.n := by omega
 clear hx2 hM2 hn' hc
 simp -implicitDefEqProofs (disch := (first | omega | fail)) only [go_sem, seval, ↓reduceIte, reduceCtorEq]
 refine GCall.of (come_lit hx [.int .u8 9] (byt1 (by omega) (by omega)) hRR (fun b hb => hb.elim (fun h => by omega) (hM b))) ?_
 rintro r g11 ⟨⟨hc, M2, hx2, hM2⟩, w27, rfl, ho27⟩
 rw [f11.1] at ho27
 rw [f11.2]
 have hl27 := ho27.lrf.lenV Try.underlying37
 have hM : ∀ k, M2 k → h.n ≤ k := fun k hk => (hM2 k hk).elim (hM k) fun h => by omega
 have hn' := hc.n
 have hx : PX g11 M2 pp [2, 1] k11 := hx2
 have ho15 := ho15.keep fun b c h1 _ => hc.cells h1 (by decide)
 have ho17 := ho17.keep fun b c h1 => hc.cells h1 (by decide)
 have hn : h.n ≤ g11.n := by omega
 clear hx2 hM2 hn' hc
 simp -implicitDefEqProofs (disch := (first | omega | fail)) only [go_sem, seval, ↓reduceIte, reduceCtorEq]
 refine known_loop hx hM hn hRR (fun b hb => hb) (by simp -implicitDefEqProofs (disch := (first | omega | fail)) only [go_sem, seval, ↓reduceIte, reduceCtorEq]) (by simp -implicitDefEqProofs (disch := (first | omega | fail)) only [go_sem, seval, ↓reduceIte, reduceCtorEq]) ?_
 intro tr g12 M12 htr hx12 hc
 have u2 : tr.get 2 = some (.int .i64 2) := (htr 2 (by omega)).trans (by simp -implicitDefEqProofs (disch := (first | omega | fail)) only [go_sem, seval, ↓reduceIte, reduceCtorEq])
 have u4 : tr.get 4 = some (.int .i64 2) := (htr 4 (by omega)).trans (by simp -implicitDefEqProofs (disch := (first | omega | fail)) only [go_sem, seval, ↓reduceIte, reduceCtorEq])
 have u5 : tr.get 5 = some (.ptr (some (pp, 0))) := (htr 5 (by omega)).trans (by simp -implicitDefEqProofs (disch := (first | omega | fail)) only [go_sem, seval, ↓reduceIte, reduceCtorEq])
 have u6 : tr.get 6 = some (.int .i64 0) := (htr 6 (by omega)).trans (by simp -implicitDefEqProofs (disch := (first | omega | fail)) only [go_sem, seval, ↓reduceIte, reduceCtorEq])
 have u7 : tr.get 7 = some (.int .i64 0) := (htr 7 (by omega)).trans (by simp -implicitDefEqProofs (disch := (first | omega | fail)) only [go_sem, seval, ↓reduceIte, reduceCtorEq])
 have u8 : tr.get 8 = some (.int .i64 0) := (htr 8 (by omega)).trans (by simp -implicitDefEqProofs (disch := (first | omega | fail)) only [go_sem, seval, ↓reduceIte, reduceCtorEq])
 have u9 : tr.get 9 = some (.int .i64 1) := (htr 9 (by omega)).trans (by simp -implicitDefEqProofs (disch := (first | omega | fail)) only [go_sem, seval, ↓reduceIte, reduceCtorEq])
 have u10 : tr.get 10 = some (.int .i64 0) := (htr 10 (by omega)).trans (by simp -implicitDefEqProofs (disch := (first | omega | fail)) only [go_sem, seval, ↓reduceIte, reduceCtorEq])
 have u12 : tr.get 12 = some (.int .i64 5) := (htr 12 (by omega)).trans (by simp -implicitDefEqProofs (disch := (first | omega | fail)) only [go_sem, seval, ↓reduceIte, reduceCtorEq])
 have u14 : tr.get 14 = some (.int .i64 2) := (htr 14 (by omega)).trans (by simp -implicitDefEqProofs (disch := (first | omega | fail)) only [go_sem, seval, ↓reduceIte, reduceCtorEq])
 have u15 : tr.get 15 = some (w15) := (htr 15 (by omega)).trans (by simp -implicitDefEqProofs (disch := (first | omega | fail)) only [go_sem, seval, ↓reduceIte, reduceCtorEq])
 have u16 : tr.get 16 = some (.int .i64 0) := (htr 16 (by omega)).trans (by simp -implicitDefEqProofs (disch := (first | omega | fail)) only [go_sem, seval, ↓reduceIte, reduceCtorEq])
 have u17 : tr.get 17 = some (w17) := (htr 17 (by omega)).trans (by simp -implicitDefEqProofs (disch := (first | omega | fail)) only [go_sem, seval, ↓reduceIte, reduceCtorEq])
 have u18 : tr.get 18 = some (.int .i64 0) := (htr 18 (by omega)).trans (by simp -implicitDefEqProofs (disch := (first | omega | fail)) only [go_sem, seval, ↓reduceIte, reduceCtorEq])
 have u20 : tr.get 20 = some (.int .i64 6) := (htr 20 (by omega)).trans (by simp -implicitDefEqProofs (disch := (first | omega | fail)) only [go_sem, seval, ↓reduceIte, reduceCtorEq])
 have u21 : tr.get 21 = some (.int .i64 0) := (htr 21 (by omega)).trans (by simp -implicitDefEqProofs (disch := (first | omega | fail)) only [go_sem, seval, ↓reduceIte, reduceCtorEq])
 have u22 : tr.get 22 = some (.int .i64 0) := (htr 22 (by omega)).trans (by simp -implicitDefEqProofs (disch := (first | omega | fail)) only [go_sem, seval, ↓reduceIte, reduceCtorEq])
 have u23 : tr.get 23 = some (w23) := (htr 23 (by omega)).trans (by simp -implicitDefEqProofs (disch := (first | omega | fail)) only [go_sem, seval, ↓reduceIte, reduceCtorEq])
 have u24 : tr.get 24 = some (.int .i64 0) := (htr 24 (by omega)).trans (by simp -implicitDefEqProofs (disch := (first | omega | fail)) only [go_sem, seval, ↓reduceIte, reduceCtorEq])
 have u25 : tr.get 25 = some (w25) := (htr 25 (by omega)).trans (by simp -implicitDefEqProofs (disch := (first | omega | fail)) only [go_sem, seval, ↓reduceIte, reduceCtorEq])
 have u26 : tr.get 26 = some (.int .i64 0) := (htr 26 (by omega)).trans (by simp -implicitDefEqProofs (disch := (first | omega | fail)) only [go_sem, seval, ↓reduceIte, reduceCtorEq])
 have u27 : tr.get 27 = some (w27) := (htr 27 (by omega)).trans (by simp -implicitDefEqProofs (disch := (first | omega | fail)) only [go_sem, seval, ↓reduceIte, reduceCtorEq])
 have u28 : tr.get 28 = some (.int .i64 0) := (htr 28 (by omega)).trans (by simp -implicitDefEqProofs (disch := (first | omega | fail)) only [go_sem, seval, ↓reduceIte, reduceCtorEq])
 clear htr
 have ho15 := ho15.keep fun b c h1 _ => hc.cells h1 (by decide)
 have ho17 := ho17.keep fun b c h1 => hc.cells h1 (by decide)
 have hn12 := hc.n
 have hn : h.n ≤ g12.n := by omega
 clear hx hM hn12 hc ho23 ho25 ho27
 simp -implicitDefEqProofs (disch := (first | omega | fail)) only [go_sem, seval, ↓reduceIte, u2]
 iterate 13
  refine GCall.of (num_ok _).any ?_
  rintro r g12 ⟨rfl, rfl⟩
  simp -implicitDefEqProofs (disch := (first | omega | fail)) only [go_sem, seval, ↓reduceIte, u4, u6, u7, u8, u9, u10, u12, u14, u15, u16, u18, u22, u24, u26, u28]
 have hsc : LRs 2 (g12.push (.cells (Blk.of [.int .i64 0, .bool false, .int .i64 1, .bool false]) 41)) (fun k => k = g12.n) (.slice (some (g12.n, 0)) 2 2 true) [((0 : Nat), false), (1, false)].length (flatC [(0, false), (1, false)]) := ⟨rfl, .inr ⟨g12.n, 0, _, _, _, 41, rfl, rfl, w_push_eq rfl _, by decide, rfl⟩⟩
 refine GCall.of (samecame_ok (ho15.lr.old fun b hb => w_push_ne (by omega) _) hsc hRR (by decide)).any ?_
 rintro r g13 ⟨rfl, rfl⟩
 rw [decide_eq_true rfl]
 obtain ⟨rs, hcv⟩ := conv_lr (h := g12.push (.cells (Blk.of [.int .i64 0, .bool false, .int .i64 1, .bool false]) 41)) (ho17.lr.old fun b hb => w_push_ne (by omega) _) (byt2 (by omega) (by omega) (by omega) (by omega))
 rw [s07] at hcv
 have hrs : allB (fun b => h.n ≤ b ∨ R b) rs := allB_of fun b _ => hRR b
 simp -implicitDefEqProofs (disch := (first | omega | fail)) only [go_sem, seval, ↓reduceIte, ↓cvS, hcv, hrs, e07, u17, u20]
 refine GCall.of (num_ok _).any ?_
 rintro r g13 ⟨rfl, rfl⟩
 have hxp : PX (g12.push (.cells (Blk.of [.int .i64 0, .bool false, .int .i64 1, .bool false]) 41)) M12 pp [2, 1] (iterC k11 8) := hx12.old (by simp) fun b hb => w_push_ne (by omega) _
 have l0 : (([] : List (Nat × Bool)).length : Int) + (([] : List (Nat × Bool)).length : Int) = 0 := rfl
 simp -implicitDefEqProofs (disch := (first | omega | fail)) only [go_sem, seval, ↓reduceIte, ↓hl23, ↓hl25, ↓hl27, List.length_nil, u5, u21, u23, u25, u27]
 refine GCall.of (len_px hxp hRR 0 1) ?_
 rintro r g13 ⟨rfl, rfl⟩
 rw [f12.1]
 simp -implicitDefEqProofs (disch := (first | omega | fail)) only [go_sem, seval, ↓reduceIte, u5]
 refine GCall.of (lost_px hxp hRR 0 1) ?_
 rintro r g13 ⟨rfl, rfl⟩
 rw [f12.2]
 simp -implicitDefEqProofs (disch := (first | omega | fail)) only [go_sem, seval, ↓reduceIte]
theorem known_dem (hR : ∀ b, R b) : SF ⟨Try.prog, true⟩ 8 [] h R W fun r g => r = .bool true ∧ h.n ≤ g.n ∧ ∀ k, k < h.n → g.get k = h.get k := by
 refine SF.mono (SF.foot (known_0 (h := h) hR).kept (fun _ h => h) fun _ h => h.elim) ?_
 rintro r g ⟨rfl, vf⟩
 exact ⟨rfl, vf.n, fun k hk => vf.get k hk fun h => h⟩
end Go.Proofs.Ytmimialblhlklaa
