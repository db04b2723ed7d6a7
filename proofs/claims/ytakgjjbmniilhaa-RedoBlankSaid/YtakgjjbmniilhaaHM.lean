/- The log on a blank disk, plainly. -/
import Derived.Test.YtakgjjbmniilhaaHL
set_option linter.unusedVariables false
set_option linter.unusedSimpArgs false
set_option linter.unusedSimpArgs false
set_option maxRecDepth 100000
set_option linter.unusedVariables false
set_option linter.unusedSimpArgs false
namespace Go.Proofs.Ytakgjjbmniilhaa
open Go Go.Vm
attribute [-go_sem] sz_101
variable {D : DS} {fr ct : Nat}
theorem seen_write (D : DS) (s : Nat) (l : List V) (x : Nat) : (D.write s l).seen x = if x = s then l else D.seen x := by
  unfold DS.seen DS.write
  simp only
  by_cases h : x = s
  · rw [if_pos h, if_pos h]; simp
  · rw [if_neg h, if_neg h]
theorem seen_flush (D : DS) (a m x : Nat) : (D.flush a m).seen x = D.seen x := by
  by_cases h : a ≤ x ∧ x < a + m
  · unfold DS.seen DS.flush
    simp only [if_pos h, List.getLast?_nil]
    rfl
  · unfold DS.seen DS.flush
    simp only [if_neg h]
theorem seen_new (n x : Nat) : (DS.new n).seen x = zB 128 := by
  have : (DS.new n).seen x = ze_101 := rfl
  rw [this, ze_eq, secN_eq]; rfl
def Few (D : DS) (k : Nat) : Prop := ∀ s, (D.pe s).length ≤ k
theorem Few.write {k s : Nat} {l : List V} (h : Few D k) : Few (D.write s l) (k + 1) := fun x => by
  unfold DS.write
  simp only
  split
  · rw [List.length_append]; have := h s; simp; omega
  · have := h x; omega
theorem Few.flush {k a m : Nat} (h : Few D k) : Few (D.flush a m) k := fun x => by
  unfold DS.flush
  simp only
  split
  · simp
  · exact h x
theorem Few.mono {k j : Nat} (h : Few D k) (hk : k ≤ j) : Few D j := fun s => Nat.le_trans (h s) hk
theorem few_new (n : Nat) : Few (DS.new n) 0 := fun s => Nat.le_refl _
theorem Few.lt {k : Nat} (h : Few D k) (hk : k < 1000000000) : ∀ s, (D.pe s).length < 1000000000 := fun s => Nat.lt_of_le_of_lt (h s) hk
theorem few_zero {k : Nat} (h : Few D k) : ∀ j, Few (zeroW D fr j) (k + j)
  | 0 => h
  | j + 1 => (few_zero h j).write
theorem few_app {k : Nat} {G : LgS} {l : List V} {n : Nat} (h : Few D k) : ∀ j, Few (appW D fr ct G l n j) (k + j)
  | 0 => h
  | j + 1 => (few_app h j).write
theorem seen_zero (D : DS) (fr : Nat) : ∀ k x, (zeroW D fr k).seen x = if fr ≤ x ∧ x < fr + k then zB 128 else D.seen x
  | 0, x => by rw [if_neg (by omega)]; rfl
  | k + 1, x => by
    show ((zeroW D fr k).write (fr + k) (zB 128)).seen x = _
    rw [seen_write, seen_zero D fr k x]
    by_cases h : x = fr + k
    · rw [if_pos h, if_pos (by omega)]
    · rw [if_neg h]
      by_cases h2 : fr ≤ x ∧ x < fr + k
      · rw [if_pos h2, if_pos (by omega)]
      · rw [if_neg h2, if_neg (by omega)]
def BlankS (D : DS) (fr ct : Nat) : Prop := ∀ s, fr ≤ s → s < fr + ct → D.seen s = zB 128
theorem blank_new (n fr ct : Nat) : BlankS (DS.new n) fr ct := fun s _ _ => seen_new n s
theorem blank_blank (D : DS) (fr ct : Nat) : BlankS (blankD D fr ct) fr ct := fun s h1 h2 => by
  unfold blankD; rw [seen_flush, seen_zero, if_pos ⟨h1, h2⟩]
theorem few_blank {k : Nat} (h : Few D k) : Few (blankD D fr ct) (k + ct) := (few_zero h ct).flush
theorem blankD_n (D : DS) (fr ct : Nat) : (blankD D fr ct).n = D.n := zeroW_n D fr ct
theorem layD_n (D : DS) (fr ct : Nat) (H : Hd) : (layD D fr ct H).n = D.n := rfl
theorem few_lay {k : Nat} {H : Hd} (h : Few D k) : Few (layD D fr ct H) (k + 1) := h.write.flush
theorem recA_zero : recA (zB 128) = none := by
  unfold recA
  refine if_neg fun h => ?_
  have : bAt (zB 128) 17 = 0 := by decide
  have h2 := h.1.2.1
  omega
def H1 : Hd := ⟨1, 0, 0, 0, 1⟩
def G1 : LgS := ⟨H1, 1, 0, 0, [], []⟩
theorem whichS_zero (n i : Nat) (o : Hd) : whichS n i (zB 128) o = some o := by unfold whichS; rw [if_pos rfl]
theorem open_blank (hb : BlankS D fr ct) (hc : 16 ≤ ct) : openA D fr ct = some (layD D fr ct H1, G1) := by
  unfold openA
  rw [hb fr (by omega) (by omega), hb (fr + 1) (by omega) (by omega)]
  have hw : whichA ((ct - 2) / 2) (zB 128) (zB 128) = some h00 := by
    unfold whichA; rw [whichS_zero ((ct - 2) / 2) 0 h00]; exact whichS_zero ((ct - 2) / 2) 1 h00
  rw [hw, Option.map_some]
  have hs : secsN h00.sz = 0 := rfl
  have hl : loadF D fr ct h00 = ([], 0, 1) := by
    unfold loadF
    rw [hs, show (ct - 2) / 2 - 0 = ((ct - 2) / 2 - 1) + 1 by omega, runL]
    have : secA D fr ct h00.ha 0 = zB 128 := hb _ (by omega) (by show fr + 2 + 0 * _ + 0 < _; omega)
    rw [this, recA_zero]; rfl
  rw [hl]
  rfl
theorem okH1 : H1.Ok := ⟨by decide, by decide, by decide, by decide, by decide, by decide⟩
theorem mayH1 (n : Nat) : mayH n 1 H1 := ⟨by decide, by decide, by decide, by decide, Nat.zero_le _⟩
def aV : List V := [.int .u8 97]
theorem open_one (hb : BlankS D fr ct) (hc : 16 ≤ ct) : ∃ D' G', openA (((appW (layD D fr ct H1) fr ct G1 aV 1 1)).flush fr ct) fr ct = some (D', G') ∧ G'.nx = 2 := by
  have hseen : ∀ x, (((appW (layD D fr ct H1) fr ct G1 aV 1 1)).flush fr ct).seen x = if x = fr + 2 then partB 1 1 0 1 aV else if x = fr + 1 then putH H1 else D.seen x := fun x => by
    rw [seen_flush]
    show ((layD D fr ct H1).write _ _).seen x = _
    rw [seen_write]
    have e1 : fr + 2 + G1.H.ha * ((ct - 2) / 2) + G1.at' + 0 = fr + 2 := by show fr + 2 + 0 * _ + 0 + 0 = _; omega
    rw [e1]
    by_cases h : x = fr + 2
    · rw [if_pos h, if_pos h]; rfl
    · rw [if_neg h, if_neg h]
      unfold layD
      rw [seen_flush, seen_write]
      have e2 : fr + H1.ep % 2 = fr + 1 := rfl
      rw [e2]
  obtain ⟨E, eE⟩ : ∃ E, E = ((appW (layD D fr ct H1) fr ct G1 aV 1 1)).flush fr ct := ⟨_, rfl⟩
  rw [← eE] at hseen ⊢
  clear eE
  have s0 : E.seen fr = zB 128 := by rw [hseen, if_neg (by omega), if_neg (by omega)]; exact hb _ (by omega) (by omega)
  have s1 : E.seen (fr + 1) = putH H1 := by rw [hseen, if_neg (by omega), if_pos rfl]
  have s2 : E.seen (fr + 2) = partB 1 1 0 1 aV := by rw [hseen, if_pos rfl]
  have s3 : E.seen (fr + 3) = zB 128 := by rw [hseen, if_neg (by omega), if_neg (by omega)]; exact hb _ (by omega) (by omega)
  unfold openA
  rw [s0, s1]
  have hw : whichA ((ct - 2) / 2) (zB 128) (putH H1) = some H1 := by
    unfold whichA
    rw [whichS_zero ((ct - 2) / 2) 0 h00]
    show whichS _ 1 (putH H1) h00 = _
    unfold whichS
    rw [if_neg (putH_ne H1), head_put okH1]
    simp only
    rw [if_pos (mayH1 _)]
    rfl
  rw [hw, Option.map_some]
  refine ⟨_, _, rfl, ?_⟩
  have hs : secsN H1.sz = 0 := rfl
  show (loadF E fr ct H1).2.2 = 2
  unfold loadF
  have q2 : secA E fr ct H1.ha 0 = partB 1 1 0 1 aV := by rw [← s2]; show E.seen (fr + 2 + 0 * _ + 0) = _; congr 1; omega
  have q3 : secA E fr ct H1.ha 1 = zB 128 := by rw [← s3]; show E.seen (fr + 2 + 0 * _ + 1) = _; congr 1; omega
  have hr : recA (partB 1 1 0 1 aV) = some ⟨1, 1, 0, 1, aV⟩ := rec_part (by decide) (by decide) (by decide)
  rw [hs, show (ct - 2) / 2 - 0 = ((ct - 2) / 2 - 2) + 1 + 1 by omega, runL, q2, hr]
  have nb : ¬ badL H1.ep (freshL H1.fi H1.si [] 0) ⟨1, 1, 0, 1, aV⟩ := by decide
  simp only [if_neg nb]
  rw [runL, q3, recA_zero]
  rfl
end Go.Proofs.Ytakgjjbmniilhaa
