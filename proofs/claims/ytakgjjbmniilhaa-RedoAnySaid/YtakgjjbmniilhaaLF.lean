/- What the disk says of a log: kept by a checkpoint; a new one; a crash in the midst of a checkpoint. -/
import Derived.Test.YtakgjjbmniilhaaMg18
set_option linter.unusedVariables false
set_option maxRecDepth 100000
set_option linter.unusedVariables false
namespace Go.Proofs.Ytakgjjbmniilhaa
open Go Go.Vm
attribute [-go_sem] qQ
variable {D : DS} {fr ct k : Nat} {G : LgS} {E E' : Nat → List V}
theorem seen_snap (D : DS) (base : Nat) (l : List V) : ∀ (j x : Nat), (snapW D base l j).seen x = if base ≤ x ∧ x < base + j then snapS l (x - base) else D.seen x
 | 0, x => by rw [if_neg (by omega)]; rfl
 | j + 1, x => by
  show ((snapW D base l j).write _ _).seen x = _
  rw [seen_write, seen_snap D base l j x]
  by_cases h : x = base + j
  ·rw [if_pos h, if_pos (by omega), h, show base + j - base = j by omega]
  ·rw [if_neg h]
   by_cases h2 : base ≤ x ∧ x < base + j
   ·rw [if_pos h2, if_pos (by omega)]
   ·rw [if_neg h2, if_neg (by omega)]
theorem snapS_drop (l : List V) (p : Nat) : (snapS l p).drop 8 = yC l p ++ zB (120 - (yC l p).length) := by
 unfold snapS padB
 rw [List.append_assoc, List.drop_append_of_le_length (by rw [bigB_len8]; omega), List.drop_of_length_le (by rw [bigB_len8]; omega), List.nil_append, List.length_append, bigB_len8, show 128 - (8 + (yC l p).length) = 120 - (yC l p).length by omega]
theorem snapC_snap {sec : Nat → List V} {l : List V} : ∀ (K : Nat), K ≤ qL l.length → (∀ i, i < K → sec i = snapS l i) → jS sec K = l.take (120 * K) ++ zB (120 * K - l.length)
 | 0, _, _ => by simp [jS, zB]
 | K + 1, hK, hs => by
  have hN : qL l.length = (l.length + 119) / 120 := rfl
  rw [snapC_succ, snapC_snap K (by omega) fun i hi => hs i (by omega), hs K (by omega), snapS_drop]
  have e0 : 120 * K - l.length = 0 := by omega
  have hlb : (yC l K).length = min 120 (l.length - 120 * K) := by unfold yC; rw [List.length_take, List.length_drop]
  rw [e0, show zB 0 = [] from rfl, List.append_nil, ← List.append_assoc]
  congr 1
  ·unfold yC
   rw [show 120 * (K + 1) = 120 * K + 120 by omega, List.take_add]
  ·rw [hlb]
   congr 1
   omega
theorem seen_ck (D : DS) (fr ct : Nat) (G : LgS) (l : List V) (x : Nat) : (ckD D fr ct G l).seen x = if x = fr + (ckH G l).ep % 2 then putH (ckH G l) else if fr + 2 + (1 - G.H.ha) * ((ct - 2) / 2) ≤ x ∧ x < fr + 2 + (1 - G.H.ha) * ((ct - 2) / 2) + qL l.length then snapS l (x - (fr + 2 + (1 - G.H.ha) * ((ct - 2) / 2))) else D.seen x := by
 unfold ckD
 rw [seen_lay, seen_flush, seen_snap]
theorem ckH_ok {l : List V} (h : Coh E fr ct k G) (hk : k ≤ 100000) (hl : l.length ≤ 1000000) : (ckH G l).Ok := by
 have := h.bd
 have := h.o.nx
 have := h.o.ok.ha
 exact ⟨by show G.H.ep + 1 < _; omega, Nat.le_refl _, by show 1 - G.H.ha < 2; omega, by show l.length < _; omega, by show 1 ≤ G.nx; omega, by show G.nx < _; omega⟩
def ckR (G : LgS) (l : List V) (sy : Nat) : LgS := ⟨ckH G l, G.nx, qL l.length, sy, l, []⟩
theorem Coh.ck {l : List V} (h : Coh D.seen fr ct k G) (hk : k ≤ 100000) (hc : ct ≤ 4096) (hl : l.length ≤ (ct - 2) / 2 * 120) (sy : Nat) : Coh (ckD D fr ct G l).seen fr ct (k + 1) (ckR G l sy) := by
 have hnx := h.o.nx
 have hok' := ckH_ok (l := l) h hk (by omega)
 obtain ⟨⟨ok, may, hd, hd', ⟨we, ch⟩, stop, sn⟩, old, all, bd, at'⟩ := h
 have hha := ok.ha
 have hN : qL l.length = (l.length + 119) / 120 := rfl
 have hKn : qL l.length ≤ (ct - 2) / 2 := by omega
 have he : (ckH G l).ep = G.H.ep + 1 := rfl
 have hh : (ckH G l).ha = 1 - G.H.ha := rfl
 obtain ⟨F, eF⟩ : ∃ F, F = (ckD D fr ct G l).seen := ⟨_, rfl⟩
 have hF : ∀ x, F x = if x = fr + (ckH G l).ep % 2 then putH (ckH G l) else if fr + 2 + (1 - G.H.ha) * ((ct - 2) / 2) ≤ x ∧ x < fr + 2 + (1 - G.H.ha) * ((ct - 2) / 2) + qL l.length then snapS l (x - (fr + 2 + (1 - G.H.ha) * ((ct - 2) / 2))) else D.seen x := fun x => by rw [eF]; exact seen_ck D fr ct G l x
 have hmay : mayH ((ct - 2) / 2) ((ckH G l).ep % 2) (ckH G l) := ⟨by omega, rfl, by omega, by show G.nx ≤ _; omega, hl⟩
 rw [← eF]
 have hm2 : ∀ i, i % 2 < 2 := fun i => Nat.mod_lt i (by omega)
 have hsnap : ∀ j, j < qL l.length → zC F fr ct (1 - G.H.ha) j = snapS l j := fun j hj => by
  unfold zC
  rw [hF, if_neg (by have := hm2 (ckH G l).ep; omega), if_pos (by omega)]
  congr 1
  omega
 have hrest : ∀ j, qL l.length ≤ j → zC F fr ct (1 - G.H.ha) j = zC D.seen fr ct (1 - G.H.ha) j := fun j hj => by
  unfold zC
  rw [hF, if_neg (by have := hm2 (ckH G l).ep; omega), if_neg (by omega)]
 have hoth : ∀ j, j < (ct - 2) / 2 → zC F fr ct G.H.ha j = zC D.seen fr ct G.H.ha j := fun j hj => by
  unfold zC
  rw [hF, if_neg (by have := hm2 (ckH G l).ep; omega), if_neg (fun hc => ?_)]
  have := half_ne (n := (ct - 2) / 2) (a := G.H.ha) (b := 1 - G.H.ha) (i := j) (j := fr + 2 + G.H.ha * ((ct - 2) / 2) + j - (fr + 2 + (1 - G.H.ha) * ((ct - 2) / 2))) hha (by omega) hj (by omega) (by omega)
  omega
 refine ⟨⟨hok', hmay, (hF (fr + (ckH G l).ep % 2)).trans (if_pos rfl), .inr ⟨G.H, ?_, ok, ?_, by show G.H.ep < (ckH G l).ep; omega⟩, ⟨G.H.ep + 1, .nil⟩, fun h => ?_, ?_⟩, fun j h1 h2 => ?_, fun b hb j hj => ?_, ⟨by show (ckH G l).ep ≤ _; omega, by show G.nx ≤ _; omega⟩, hKn⟩
 ·show F (fr + ((ckH G l).ep + 1) % 2) = _
  rw [hF, if_neg (by omega), if_neg (by have := hm2 ((ckH G l).ep + 1); omega), show ((ckH G l).ep + 1) % 2 = G.H.ep % 2 by omega]
  exact hd
 ·show mayH _ (((ckH G l).ep + 1) % 2) G.H
  rw [show ((ckH G l).ep + 1) % 2 = G.H.ep % 2 by omega]
  exact may
 ·show OldS (G.H.ep + 1) (zC F fr ct (1 - G.H.ha) (qL l.length))
  rw [hrest _ (Nat.le_refl _)]
  exact all _ (by omega) _ h
 ·show (jS (zC F fr ct (1 - G.H.ha)) (qL l.length)).take l.length = l
  rw [snapC_snap _ (Nat.le_refl _) hsnap, List.take_of_length_le (by omega : l.length ≤ 120 * qL l.length), List.take_append_of_le_length (Nat.le_refl _), List.take_length]
 ·show OldS (G.H.ep + 1) (zC F fr ct (1 - G.H.ha) j)
  have h1 : qL l.length ≤ j := h1
  rw [hrest j h1]
  exact all _ (by omega) _ h2
 ·show OldS ((ckH G l).ep + 1) (zC F fr ct b j)
  by_cases hb2 : b = G.H.ha
  ·subst hb2
   rw [hoth j hj]
   exact (all _ hb j hj).mono (by omega)
  ·obtain rfl : b = 1 - G.H.ha := by omega
   by_cases hj2 : j < qL l.length
   ·rw [hsnap j hj2]
    exact OldS.snap _ _ _
   ·rw [hrest j (by omega)]
    exact (all _ hb j hj).mono (by omega)
theorem Coh.ckG {l : List V} (h : Coh D.seen fr ct k G) (hk : k ≤ 100000) (hc : ct ≤ 4096) (hl : l.length ≤ (ct - 2) / 2 * 120) : ckG D fr ct G l = ckR G l (G.nx - 1) := by
 have hc := h.ck hk hc hl 0
 have h1 : zX (ckD D fr ct G l) fr ct (ckH G l) = ([], qL l.length, G.nx) := hc.o.load
 have h2 : snapA (ckD D fr ct G l) fr ct (ckH G l) = l := hc.o.sn
 unfold Go.Proofs.Ytakgjjbmniilhaa.ckG ldG ckR
 rw [h1, h2]
theorem coh_new (hb : BlankS D fr ct) (hc : 16 ≤ ct) : Coh (layD D fr ct H1).seen fr ct 1 G1 := by
 have hz : ∀ b, b < 2 → ∀ j, j < (ct - 2) / 2 → zC (layD D fr ct H1).seen fr ct b j = zB 128 := fun b hb2 j hj => by
  unfold zC
  have := half_lt hb2 hj
  rw [seen_lay, if_neg (by show ¬ _ = fr + 1; omega)]
  exact hb _ (by omega) (by omega)
 have h0 : G1.H.ha < 2 := by decide
 refine ⟨⟨okH1, mayH1 _, (seen_lay D fr ct H1 (fr + H1.ep % 2)).trans (if_pos rfl), .inl ?_, ⟨0, .nil⟩, fun h => ?_, rfl⟩, fun j h1 h2 => ?_, fun b hb2 j hj => ?_, by decide, Nat.zero_le _⟩
 ·show (layD D fr ct H1).seen (fr + 0) = _
  rw [seen_lay, if_neg (by show ¬ _ = fr + 1; omega)]
  exact hb _ (by omega) (by omega)
 ·rw [hz _ h0 _ h]; exact OldS.zero _
 ·rw [hz _ h0 _ h2]; exact OldS.zero _
 ·rw [hz _ hb2 _ hj]; exact OldS.zero _
end Go.Proofs.Ytakgjjbmniilhaa
