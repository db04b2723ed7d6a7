/- Filters: Passing, of one packet. -/
import Derived.Test.YtmimialblhlklaaF3
set_option linter.unusedVariables false
set_option maxRecDepth 100000
namespace Go.Proofs.Ytmimialblhlklaa
open Go Go.Vm
variable {h : Heap} {R W I : Set'}
structure PassAt (g : Heap) (n0 lb fb : Nat) (L : List Te) (l : List V) : Prop where
 f : ∃ c, g.get fb = some (.cells c 22) ∧ c.size = 1 ∧ OwnS 3 n0 g (c.get 0) L.length (flatT L) 79
 l : ∃ c sp, g.get lb = some (.cells c 23) ∧ c.size = 1 ∧ Own n0 g (c.get 0) [sp] 36 ∧ Own n0 g sp l 5
 fn : n0 ≤ fb ∧ n0 ≤ lb
theorem PassAt.keep {g g' : Heap} {n0 lb fb : Nat} {L : List Te} {l : List V} (hp : PassAt g n0 lb fb L l) (hk : ∀ b c e, g.get b = some (.cells c e) → n0 ≤ b → g'.get b = some (.cells c e)) : PassAt g' n0 lb fb L l := by
 obtain ⟨⟨c, c1, c2, c3⟩, ⟨d, sp, d1, d2, d3, d4⟩, hf⟩ := hp
 have k1 : ∀ {v : V} {l : List V} {e : TypeId}, Own n0 g v l e → Own n0 g' v l e := fun {v l e} ho => by
  rcases ho with ⟨rfl, rfl | ⟨b, c, rfl, h1, hb, hr⟩⟩ | ⟨b, x, c, h0, rfl, h1, hb, hs⟩
  ·exact .inl ⟨rfl, .inl rfl⟩
  ·exact .inl ⟨rfl, .inr ⟨b, c, rfl, h1, hk _ _ _ hb h1, hr⟩⟩
  ·exact .inr ⟨b, x, c, h0, rfl, h1, hk _ _ _ hb h1, hs⟩
 exact ⟨⟨c, hk _ _ _ c1 hf.1, c2, c3.keep fun b c hb h1 => hk b c 79 hb h1⟩, ⟨d, sp, hk _ _ _ d1 hf.2, d2, k1 d3, k1 d4⟩, hf⟩
set_option maxHeartbeats 4000000 in
theorem pass_ok {S S2 : Set'} {pb : Nat} {vf vp : V} {l : List V} {L : List Te} (hb : h.get pb = some (.cells (Blk.of [vp]) 36)) (hl : LR h S vp l) (hby : Byt l) (hl6 : l.length ≤ 1000) (hf : TestsV h S2 vf L) (hL : L.length ≤ 1000) (hR : ∀ b, R b) :
  SF Try.prog 35 [vf, .slice (some (pb, 0)) 1 1 true] h R W fun r g => (∃ lb fb, r = .func 64 [] [.ptr (some (lb, 0)), .ptr (some (fb, 0))] ∧ PassAt g h.n lb fb L l) ∧ h.n ≤ g.n ∧ ∀ b, b < h.n → g.get b = h.get b := by
 have hvo := LRs.one hf
 have hvc := LRs.cells hf
 have hlt := Heap.lt_of_get hb
 have wn : h.n ≤ h.n ∨ W h.n := .inl (Nat.le_refl _)
 have hRn := hR h.n
 refine SF.go hm Try.func35 ir35_eq ?_
 simp -implicitDefEqProofs (disch := (first | omega | (simp -implicitDefEqProofs only [szs, ne_eq] <;> omega) | fail)) only [go_sem, seval, ↓reduceIte, reduceCtorEq, ir35, ↓hvc, hRn, undefV]
 refine GCall.of (((clone32 (R := fun _ => True) (W := fun _ => False) (L := L) (hf.old fun b hb => w_push_ne (by omega) _) (fun _ _ => trivial) (by omega)).kept).foot (fun b _ => .inr (hR b)) (fun _ h => h.elim)) ?_
 rintro s g ⟨⟨hs, hk⟩, vf1⟩
 have hn := vf1.n
 simp only [Heap.n_push] at hn hk hs
 have b0 := hk h.n (by omega)
 rw [w_push_eq rfl] at b0
 have hso := hs.lr.one
 have hsc := hs.lr.cells
 have ko : ∀ b, b < h.n → g.get b = h.get b := fun b hb => by rw [hk b (by omega), w_push_ne (by omega)]
 simp -implicitDefEqProofs (disch := (first | omega | (simp -implicitDefEqProofs only [szs, ne_eq] <;> omega) | fail)) only [go_sem, seval, ↓reduceIte, reduceCtorEq, b0, ↓hso, ↓hsc, undefV]
 obtain ⟨G, hG⟩ : ∃ G, G = (g.set h.n (O.cells ((Blk.of [vf]).set 0 s) 22)).push (O.cells (Blk.of [V.slice none 0 0 true]) 23) := ⟨_, rfl⟩
 rw [← hG]
 have Gn : G.n = g.n + 1 := by rw [hG]; simp
 have Gk : ∀ b, b < g.n → b ≠ h.n → G.get b = g.get b := fun b hb hne => by rw [hG, w_push_ne (by simp; omega), w_set_ne (by omega) hne]
 have Gf : G.get h.n = some (.cells ((Blk.of [vf]).set 0 s) 22) := by rw [hG, w_push_ne (by simp; omega)]; exact w_set_eq (by omega) rfl _
 have Gl : G.get g.n = some (.cells (Blk.of [V.slice none 0 0 true]) 23) := by rw [hG]; exact w_push_eq (by simp) _
 clear hG
 have hsG : OwnS 3 h.n G s L.length (flatT L) 79 := (hs.mono (by omega)).keep fun b c hb h1 => by
  have : b ≠ h.n := fun e => by rw [e, b0] at hb; cases hb
  rw [Gk b (Heap.lt_of_get hb) this]; exact hb
 have lt1 : ¬ (1 : Int) < ((1 : Nat) : Int) := by decide
 have lt0 : (0 : Int) < ((1 : Nat) : Int) := by decide
 refine GLoop.inv hm (fun k f g' => f.mks = [] ∧ f.tm.n = 23 ∧ f.tm.get 2 = some (.ptr (some (h.n, 0))) ∧ f.tm.get 5 = some (.ptr (some (g.n, 0))) ∧ f.tm.get 10 = some (.slice (some (pb, 0)) 1 1 true) ∧ f.tm.get 11 = some (.int .i64 ((1 : Nat) : Int)) ∧ g.n + 1 ≤ g'.n ∧ (∀ b, b < g.n → g'.get b = G.get b) ∧ ∃ i : Nat, i + k = 1 ∧ f.tm.get 12 = some (.int .i64 (i : Int)) ∧ ((i = 0 ∧ g'.get g.n = some (.cells (Blk.of [V.slice none 0 0 true]) 23)) ∨ (i = 1 ∧ ∃ c sp, g'.get g.n = some (.cells c 23) ∧ c.size = 1 ∧ Own h.n g' (c.get 0) [sp] 36 ∧ Own h.n g' sp l 5))) 1 ?_ ?_
 ·exact ⟨rfl, rfl, by simp -implicitDefEqProofs (disch := (first | omega | (simp -implicitDefEqProofs only [szs, ne_eq] <;> omega) | fail)) only [go_sem, seval, ↓reduceIte, reduceCtorEq], by simp -implicitDefEqProofs (disch := (first | omega | (simp -implicitDefEqProofs only [szs, ne_eq] <;> omega) | fail)) only [go_sem, seval, ↓reduceIte, reduceCtorEq], by simp -implicitDefEqProofs (disch := (first | omega | (simp -implicitDefEqProofs only [szs, ne_eq] <;> omega) | fail)) only [go_sem, seval, ↓reduceIte, reduceCtorEq], by simp -implicitDefEqProofs (disch := (first | omega | (simp -implicitDefEqProofs only [szs, ne_eq] <;> omega) | fail)) only [go_sem, seval, ↓reduceIte, reduceCtorEq], by omega, fun _ _ => rfl, 0, by omega, by simp -implicitDefEqProofs (disch := (first | omega | (simp -implicitDefEqProofs only [szs, ne_eq] <;> omega) | fail)) only [go_sem, Nat.reduceSub, Nat.reduceMod, Nat.reduceDiv, ↓reduceIte, reduceCtorEq]; rfl, .inl ⟨rfl, Gl⟩⟩
 rintro k ⟨⟨n', tr⟩, mks⟩ g' ⟨hmk, hn', t2, t5, t10, t11, hgn, hgk, i, hik, t12, hd⟩
 simp only [Tm.get_mk] at hmk hn' t2 t5 t10 t11 t12
 subst hmk hn'
 have kh : ∀ b, b < h.n → g'.get b = h.get b := fun b hb => by rw [hgk b (by omega), Gk b (by omega) (by omega), ko b hb]
 rcases hd with ⟨rfl, hd⟩ | ⟨rfl, c, sp, d1, d2, d3, d4⟩
 ·have hb' := (kh pb hlt).trans hb
  have hRb := hR pb
  have hRg := hR g.n
  have wg : h.n ≤ g.n ∨ W g.n := .inl (by omega)
  have rg : h.n ≤ g.n ∨ R g.n := .inl (by omega)
  simp -implicitDefEqProofs (disch := (first | omega | (simp -implicitDefEqProofs only [szs, ne_eq] <;> omega) | fail)) only [go_sem, seval, ↓reduceIte, ir35_l0, undefV, t5, t10, t11, t12, hb', hRb, hd]
  refine GCallD.of (R' := fun _ => True) (W' := fun _ => False) (((clone63 (R := fun _ => True) (W := fun _ => False) (hl.old kh) (fun _ => trivial) (by omega) (allOne_byt hby)).kept).foot (fun _ h => h) (fun _ h => h)) ?_
  rintro sp g2 ⟨⟨hsp, hk2⟩, vf2⟩
  have hn2 := vf2.n
  have hd2 := (hk2 g.n (by omega)).trans hd
  have hspo := hsp.lr.one
  have hspc := hsp.lr.cells
  obtain ⟨v', h', r, w, hap, hon, hnn, hold, hw, hk', _⟩ := app_own (n0 := g2.n) (h := g2.push (.cells (Blk.of [sp]) 36)) (v := .slice none 0 0 true) (x := .slice (some (g2.n, 0)) 1 1 true) (l := []) (news := [sp]) (e := 36) (bytes := 24) (.inl ⟨rfl, .inl rfl⟩) (by simp only [Heap.n_push]; omega) rfl (first_one (w_push_eq rfl _)) (by simp only [allOne, hspo]) (by simp only [List.length_cons, List.length_nil]; omega) (by simp only [List.length_cons, List.length_nil]; omega)
  simp only [Heap.n_push, List.nil_append] at hnn hon
  have hvo' := hon.lr.one
  have hvc' := hon.lr.cells
  have hd3 : h'.get g.n = some (.cells (Blk.of [V.slice none 0 0 true]) 23) := by rw [hold _ (by omega), w_push_ne (by omega)]; exact hd2
  simp -implicitDefEqProofs (disch := (first | omega | (simp -implicitDefEqProofs only [szs, ne_eq] <;> omega) | fail)) only [go_sem, seval, ↓reduceIte, undefV, t2, t5, t10, t11, t12, ↓hspc, appendV_of ap_23, hap, hd3, ↓hvo', ↓hvc']
  have e9 : (h'.set g.n (O.cells ((Blk.of [V.slice none 0 0 true]).set 0 v') 23)).get g.n = some (.cells ((Blk.of [V.slice none 0 0 true]).set 0 v') 23) := w_set_eq (by omega) rfl _
  have e8 : ∀ b, b ≠ g.n → (h'.set g.n (O.cells ((Blk.of [V.slice none 0 0 true]).set 0 v') 23)).get b = h'.get b := fun b hne => w_set_ne (by omega) hne _
  have spk : ∀ b c, g2.get b = some (.cells c 5) → (h'.set g.n (O.cells ((Blk.of [V.slice none 0 0 true]).set 0 v') 23)).get b = some (.cells c 5) := fun b c h1 => by
   have := Heap.lt_of_get h1
   have hne : b ≠ g.n := fun e => by rw [e, hd2] at h1; cases h1
   rw [e8 _ hne, hold _ this, w_push_ne (by omega)]; exact h1
  have vk : ∀ b c, h'.get b = some (.cells c 36) → (h'.set g.n (O.cells ((Blk.of [V.slice none 0 0 true]).set 0 v') 23)).get b = some (.cells c 36) := fun b c h1 => by
   have hne : b ≠ g.n := fun e => by rw [e, hd3] at h1; cases h1
   rw [e8 _ hne]; exact h1
  refine ⟨⟨⟨?_, ?_⟩, ?_, ?_⟩, ⟨fun _ => rg, fun b _ _ => .inr (hR b), fun b _ hh => hh.elim, fun b _ _ => .inr (hR b), fun b hb hh => absurd (hw b hh) (by omega), fun _ => wg⟩, 0, by omega, by omega, ?_, 1, rfl, rfl, .inr ⟨rfl, _, sp, rfl, rfl, (hon.mono (by omega)).keep vk, (hsp.mono (by omega)).keep spk⟩⟩
  ·intro b hb; simp only [List.not_mem_nil, and_false, false_or] at hb; omega
  ·intro b hb; exact hb.2.elim
  ·intro b hb; simp only [List.not_mem_nil, and_false, false_or] at hb; omega
  ·intro b hb; simp only [List.not_mem_nil, and_false] at hb
  ·intro b hb
   rw [e8 _ (by omega), hold _ (by omega), w_push_ne (by omega), hk2 _ (by omega), hgk b hb]
 ·simp -implicitDefEqProofs (disch := (first | omega | (simp -implicitDefEqProofs only [szs, ne_eq] <;> omega) | fail)) only [go_sem, seval, ↓reduceIte, ir35_l0, t2, t5, t11, t12]
  refine ⟨⟨g.n, h.n, ⟨rfl, ⟨⟨_, (hgk h.n (by omega)).trans Gf, rfl, ?_⟩, ⟨c, sp, d1, d2, d3, d4⟩, Nat.le_refl _, by omega⟩⟩⟩, by omega, kh⟩
  show OwnS 3 h.n g' s _ _ 79
  exact hsG.keep fun b c hb h1 => by
   have : b ≠ g.n := fun e => by rw [e, Gl] at hb; cases hb
   have := Heap.lt_of_get hb
   rw [hgk b (by omega)]; exact hb
end Go.Proofs.Ytmimialblhlklaa
