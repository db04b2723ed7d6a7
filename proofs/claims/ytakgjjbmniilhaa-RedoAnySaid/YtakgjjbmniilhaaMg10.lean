/- The document's log: numbers, sectors filled up. -/
import Derived.Test.YtakgjjbmniilhaaMg8
import Derived.Test.YtakgjjbmniilhaaIrR
set_option linter.unusedVariables false
set_option maxRecDepth 100000
set_option linter.unusedVariables false
namespace Go.Proofs.Ytakgjjbmniilhaa
open Go Go.Vm
attribute [-go_sem] qQ
variable {h g : Heap} {R W M N : Set'}
theorem app1 {n0 : Nat} {v x : V} {l : List V} (ho : Own n0 g v l 5) (hn : n0 ≤ g.n) (hx : x.one = true) (hl : l.length ≤ 100000000) : ∃ v' G r w, appE 5 1 1 v (.slice (some (g.n, 0)) 1 1 true) (g.push (.cells (Blk.of [x]) 5)) = some ⟨v', G, r, w⟩ ∧ Own n0 G v' (l ++ [x]) 5 ∧ g.n ≤ G.n ∧ (∀ b, b < n0 → G.get b = g.get b) ∧ ∀ b ∈ w, n0 ≤ b := by
 obtain ⟨v2, G, rr, ww, hap, ho2, nG, lG, wG, kG, tG⟩ := jK (bytes := 1) (h := g.push (.cells (Blk.of [x]) 5)) (x := .slice (some (g.n, 0)) 1 1 true) (ho.old fun b hb => by rw [qC (by omega)]) (by rw [Heap.qG]; omega) rfl (yO (qH rfl _)) (by simp only [allOne, hx]) (by simp only [List.length_cons, List.length_nil]; omega) (by simp only [List.length_cons, List.length_nil]; omega)
 rw [Heap.qG] at nG
 exact ⟨v2, G, rr, ww, hap, ho2, by omega, fun b hb => by rw [lG b hb, qC (by omega)], wG⟩
theorem appL {n0 : Nat} {S : Set'} {v x : V} {l d : List V} (ho : Own n0 g v l 5) (hn : n0 ≤ g.n) (hd : LR g S x d) (hb : Byt d) (hl : l.length + d.length ≤ 100000000) : ∃ v' G r w, appE 5 1 1 v x g = some ⟨v', G, r, w⟩ ∧ Own n0 G v' (l ++ d) 5 ∧ g.n ≤ G.n ∧ (∀ b, b < n0 → G.get b = g.get b) ∧ ∀ b ∈ w, n0 ≤ b := by
 obtain ⟨q1, rs, q2⟩ := first_lr' hd
 obtain ⟨v2, G, rr, ww, hap, ho2, nG, lG, wG, kG, tG⟩ := jK (bytes := 1) ho hn q1 q2 hb.allOne (by omega) (by omega)
 exact ⟨v2, G, rr, ww, hap, ho2, nG, lG, wG⟩
set_option maxHeartbeats 4000000 in
theorem rfull_ok {S : Set'} {v : V} {l : List V} (hv : LR h S v l) (hR : ∀ b, R b) (hl : l.length ≤ 128) (hb : Byt l) : SF Try.prog 75 [v] h R W fun r g => Own h.n g r (padB l) 5 ∧ h.n ≤ g.n ∧ ∀ b, b < h.n → g.get b = h.get b := by
 obtain ⟨v0, g0, r0, w0, hap, ho0, n0, k0, hw0⟩ := appL (Own.nil h.n h 5) (Nat.le_refl _) hv hb (by simp; omega)
 have hone := hv.one
 have q3 : allB (fun b => h.n ≤ b ∨ R b) r0 := qO fun b _ => .inr (hR b)
 have q4 : allB (fun b => h.n ≤ b ∨ W b) w0 := qO fun b hb => .inl (hw0 b hb)
 refine SF.go hm Try.func75 ir75_eq ?_
 simp -implicitDefEqProofs (disch := omega) only [go_sem, seval, ↓reduceIte, reduceCtorEq, ir75, qU jO, hap, q3, q4]
 refine kE.inv hm (fun k f g => f.mks = [] ∧ f.tm.n = 13 ∧ ∃ (j : Nat) (w : V), l.length + j + k = 128 ∧ f.tm.get 3 = some w ∧ Own h.n g w (l ++ zB j) 5 ∧ h.n ≤ g.n ∧ ∀ b, b < h.n → g.get b = h.get b) (128 - l.length) ?_ ?_
 ·exact ⟨rfl, rfl, 0, v0, by omega, by simp -implicitDefEqProofs (disch := omega) only [go_sem, seval, ↓reduceIte, reduceCtorEq], by rw [show zB 0 = [] from rfl, List.append_nil]; exact ho0, n0, k0⟩
 rintro k ⟨⟨n', tr⟩, mks⟩ g ⟨hmk, hn', j, w, hjk, t3, ho, hng, kg⟩
 simp only [Tm.kL] at hmk hn' t3
 subst hmk hn'
 have hll : (l ++ zB j).length = l.length + j := by rw [List.length_append, zB_len]
 have hlen := ho.lr.lenV Try.underlying22
 rw [hll] at hlen
 by_cases hc : l.length + j < 128
 ·have hci : ((l.length + j : Nat) : Int) < 128 := by omega
  obtain ⟨v', G, r, w', hap', ho', nG, kG, hw'⟩ := app1 (x := .int .u8 0) ho hng rfl (by rw [hll]; omega)
  have q5 : allB (fun b => h.n ≤ b ∨ R b) r := qO fun b _ => .inr (hR b)
  have q6 : allB (fun b => h.n ≤ b ∨ W b) w' := qO fun b hb => .inl (hw' b hb)
  have hwo := ho.lr.one
  simp -implicitDefEqProofs (disch := omega) only [go_sem, seval, ↓reduceIte, ir75_l0, t3, ↓hlen, hci, qU jO, hap', q5, q6]
  refine ⟨k - 1, by omega, j + 1, v', by omega, rfl, ?_, by omega, fun b hb => by rw [kG b hb, kg b hb]⟩
  rw [show zB (j + 1) = zB j ++ [.int .u8 0] from by unfold zB; rw [List.replicate_succ'], ← List.append_assoc]
  exact ho'
 ·have hci : ¬ ((l.length + j : Nat) : Int) < 128 := by omega
  simp -implicitDefEqProofs (disch := omega) only [go_sem, seval, ↓reduceIte, ir75_l0, t3, ↓hlen, hci]
  refine ⟨?_, hng, kg⟩
  unfold padB
  rw [show 128 - l.length = j by omega]
  exact ho
set_option maxHeartbeats 4000000 in
theorem rnumber_ok {n : Nat} (hn : n < 18446744073709551616) (hR : ∀ b, R b) : SF Try.prog 95 [.int .u64 (n : Int)] h R W fun r g => Own h.n g r (leb n) 5 ∧ h.n ≤ g.n ∧ ∀ b, b < h.n → g.get b = h.get b := by
 refine SF.go hm Try.func95 ir95_eq ?_
 simp -implicitDefEqProofs (disch := omega) only [go_sem, seval, ↓reduceIte, reduceCtorEq, ir95]
 refine kE.inv hm (fun k f g => f.mks = [] ∧ f.tm.n = 20 ∧ ∃ (w : V) (l : List V) (m : Nat), f.tm.get 3 = some w ∧ f.tm.get 0 = some (.int .u64 (m : Int)) ∧ Own h.n g w l 5 ∧ l.length + k = 9 ∧ m < 2 ^ (7 * k + 1) ∧ Byt l ∧ l ++ lebB k m = leb n ∧ h.n ≤ g.n ∧ ∀ b, b < h.n → g.get b = h.get b) 9 ?_ ?_
 ·exact ⟨rfl, rfl, _, [], n, by simp -implicitDefEqProofs (disch := omega) only [go_sem, seval, ↓reduceIte, reduceCtorEq], by simp -implicitDefEqProofs (disch := omega) only [go_sem, seval, ↓reduceIte], Own.nil _ _ _, rfl, hn, Byt.nil, rfl, Nat.le_refl _, fun _ _ => rfl⟩
 rintro k ⟨⟨n', tr⟩, mks⟩ g ⟨hmk, hn', w, l, m, t3, t0, ho, hlk, hmm, hby, hl, hng, kg⟩
 simp only [Tm.kL] at hmk hn' t0 t3
 subst hmk hn'
 have hwo := ho.lr.one
 by_cases h127 : m ≤ 127
 ·have hc : ¬ (127 : Int) < (m : Int) := by omega
  have e1 : l ++ [bV m] = leb n := by
   rw [← hl]
   cases k with
   | zero => rfl
   | succ k => simp only [lebB, if_pos h127]
  have ew : IntKind.u8.wrap (m : Int) = (m : Int) := by rw [wrap8, Nat.mod_eq_of_lt (by omega)]
  obtain ⟨v', G, r, w', hap', ho', nG, kG, hw'⟩ := app1 (x := bV m) ho hng rfl (by omega)
  have eb : bV m = .int .u8 (m : Int) := by unfold bV; rw [Nat.mod_eq_of_lt (by omega)]
  rw [e1] at ho'
  rw [eb] at hap'
  have q5 : allB (fun b => h.n ≤ b ∨ R b) r := qO fun b _ => .inr (hR b)
  have q6 : allB (fun b => h.n ≤ b ∨ W b) w' := qO fun b hb => .inl (hw' b hb)
  simp -implicitDefEqProofs (disch := omega) only [go_sem, seval, ↓reduceIte, reduceCtorEq, ir95_l0, t0, t3, hc, cv42_5, c42_5, ew, qU jO, hap', q5, q6]
  exact ⟨ho', by omega, fun b hb => by rw [kG b hb, kg b hb]⟩
 ·have hc : (127 : Int) < (m : Int) := by omega
  cases k with
  | zero => simp at hmm; omega
  | succ k =>
   have hpow : 2 ^ (7 * (k + 1) + 1) = 2 ^ (7 * k + 1) * 128 := by rw [show 7 * (k + 1) + 1 = 7 * k + 1 + 7 by omega, Nat.pow_add]
   simp only [lebB, if_neg h127] at hl
   have e1 : (m : Int).tmod 128 = ((m % 128 : Nat) : Int) := rfl
   have e2 : IntKind.u64.wrap ((m % 128 : Nat) : Int) = ((m % 128 : Nat) : Int) := wrap64 (by omega)
   have e3 : ((m % 128 : Nat) : Int) + 128 = ((m % 128 + 128 : Nat) : Int) := by omega
   have e4 : IntKind.u64.wrap ((m % 128 + 128 : Nat) : Int) = ((m % 128 + 128 : Nat) : Int) := wrap64 (by omega)
   have e5 : IntKind.u8.wrap ((m % 128 + 128 : Nat) : Int) = ((m % 128 + 128 : Nat) : Int) := by rw [wrap8, Nat.mod_eq_of_lt (by omega)]
   have hm64 : m < 18446744073709551616 := by
    have : 2 ^ (7 * (k + 1) + 1) ≤ 2 ^ 64 := Nat.pow_le_pow_right (by omega) (by omega)
    have e64 : (2 : Nat) ^ 64 = 18446744073709551616 := by decide
    omega
   have e6 : (m : Int).tdiv 128 = ((m / 128 : Nat) : Int) := rfl
   have e7 : IntKind.u64.wrap ((m / 128 : Nat) : Int) = ((m / 128 : Nat) : Int) := wrap64 (by omega)
   have eb : bV (m % 128 + 128) = .int .u8 ((m % 128 + 128 : Nat) : Int) := by unfold bV; rw [Nat.mod_eq_of_lt (by omega)]
   obtain ⟨v', G, r, w', hap', ho', nG, kG, hw'⟩ := app1 (x := bV (m % 128 + 128)) ho hng rfl (by omega)
   rw [eb] at hap'
   have q5 : allB (fun b => h.n ≤ b ∨ R b) r := qO fun b _ => .inr (hR b)
   have q6 : allB (fun b => h.n ≤ b ∨ W b) w' := qO fun b hb => .inl (hw' b hb)
   simp -implicitDefEqProofs (disch := omega) only [go_sem, seval, ↓reduceIte, reduceCtorEq, ir95_l0, t0, t3, hc, cv42_5, c42_5, e1, e3, e4, e5, e6, e7, qU jO, hap', q5, q6]
   refine ⟨k, by omega, v', l ++ [bV (m % 128 + 128)], m / 128, rfl, rfl, ho', by rw [List.length_append]; simp only [List.length_cons, List.length_nil]; omega, ?_, hby.app (Byt.cons (xI _) Byt.nil), by rw [List.append_assoc]; exact hl, by omega, fun b hb => by rw [kG b hb, kg b hb]⟩
   rw [hpow] at hmm
   exact Nat.div_lt_of_lt_mul (by rw [Nat.mul_comm]; exact hmm)
end Go.Proofs.Ytakgjjbmniilhaa
set_option maxRecDepth 100000
set_option linter.unusedVariables false
namespace Go.Proofs.Ytakgjjbmniilhaa
open Go Go.Vm
attribute [-go_sem] qQ
variable {h g : Heap} {R W M N : Set'}
theorem Hd.l_lt {H : Hd} (hH : H.Lt) : ∀ j, j < 6 → H.l.getD j 0 < 18446744073709551616 := fun j hj => by
 obtain ⟨a, b, c, d, e⟩ := hH
 have hh : j = 0 ∨ j = 1 ∨ j = 2 ∨ j = 3 ∨ j = 4 ∨ j = 5 := by omega
 rcases hh with rfl | rfl | rfl | rfl | rfl | rfl
 ·show 71 < _; omega
 all_goals assumption
set_option maxHeartbeats 4000000 in
theorem rput_ok {H : Hd} (hH : H.Lt) (hR : ∀ b, R b) : SF Try.prog 80 [.agg H.v] h R W fun r g => Own h.n g r (putH H) 5 ∧ h.n ≤ g.n ∧ ∀ b, b < h.n → g.get b = h.get b := by
 refine SF.go hm Try.func80 ir80_eq ?_
 simp -implicitDefEqProofs (disch := omega) only [go_sem, seval, ↓reduceIte, reduceCtorEq, ir80, Hd.v]
 obtain ⟨cl, ecl⟩ : ∃ cl : Blk, cl = Blk.of [V.int IntKind.u64 71, V.int IntKind.u64 ↑H.ep, V.int IntKind.u64 ↑H.si, V.int IntKind.u64 ↑H.ha, V.int IntKind.u64 ↑H.sz, V.int IntKind.u64 ↑H.fi] := ⟨_, rfl⟩
 have cg : ∀ j, j < 6 → cl.get j = .int .u64 ((H.l.getD j 0 : Nat) : Int) := fun j hj => by
  have hh : j = 0 ∨ j = 1 ∨ j = 2 ∨ j = 3 ∨ j = 4 ∨ j = 5 := by omega
  rw [ecl]
  rcases hh with rfl | rfl | rfl | rfl | rfl | rfl <;> rfl
 have cs : cl.size = 6 := by rw [ecl]; rfl
 refine kE.inv hm (fun k f g => f.mks = [] ∧ f.tm.n = 32 ∧ f.tm.get 3 = some (.slice (some (h.n + 1, 0)) 6 6 true) ∧ ∃ (j : Nat) (w : V), j + k = 6 ∧ f.tm.get 4 = some w ∧ f.tm.get 5 = some (.int .i64 (j : Int)) ∧ g.get (h.n + 1) = some (.cells cl 42) ∧ Own (h.n + 2) g w ((H.l.take j).map leb).flatten 5 ∧ h.n + 2 ≤ g.n ∧ ∀ b, b < h.n → g.get b = h.get b) 6 ?_ ?_
 ·refine ⟨rfl, rfl, by simp -implicitDefEqProofs (disch := omega) only [go_sem, seval, ↓reduceIte, reduceCtorEq], 0, _, by omega, by simp -implicitDefEqProofs (disch := omega) only [go_sem, seval, ↓reduceIte, reduceCtorEq], by simp -implicitDefEqProofs (disch := omega) only [go_sem, seval, ↓reduceIte, reduceCtorEq], ?_, Own.nil _ _ _, by simp only [Heap.qG]; omega, fun b hb => by rw [qC (by simp only [Heap.qG]; omega), qC (by omega)]⟩
  rw [ecl]; exact qH (by simp only [Heap.qG]) _
 rintro k ⟨⟨n', tr⟩, mks⟩ g ⟨hmk, hn', t3, j, w, hjk, t4, t5, hcl, ho, hng, kg⟩
 simp only [Tm.kL] at hmk hn' t3 t4 t5
 subst hmk hn'
 have hwo := ho.lr.one
 have hlen : ∀ j, j ≤ 6 → ((H.l.take j).map leb).flatten.length ≤ 60 := fun j hj => by
  have hle : ∀ (L : List Nat), (L.map leb).flatten.length ≤ 10 * L.length := fun L => by
   induction L with
   | nil => simp
   | cons a L ih => simp only [List.map_cons, List.flatten_cons, List.length_append, List.length_cons]; have := leb_len a; omega
  have := hle (H.l.take j)
  have : (H.l.take j).length ≤ 6 := by rw [List.length_take]; omega
  omega
 by_cases hc : j < 6
 ·have hci : (j : Int) < 6 := by omega
  have hj0 : (0 : Int) ≤ (j : Int) := by omega
  have hc6 : (j : Int) < ((6 : Nat) : Int) := by omega
  have hgj := cg j hc
  have hRc : h.n ≤ h.n + 1 := by omega
  have hjs : j < cl.size := by omega
  simp -implicitDefEqProofs (disch := omega) only [go_sem, seval, ↓reduceIte, ir80_l0, t3, t4, t5, hci, hj0, hcl, hgj, hRc]
  refine qK.of (rnumber_ok (Hd.l_lt hH j hc) fun b => .inr (hR b)) ?_
  rintro r g1 ⟨o1, n1, k1⟩
  have ho1 : Own (h.n + 2) g1 w ((H.l.take j).map leb).flatten 5 := ho.old k1
  obtain ⟨v', G, r', w', hap', ho', nG, kG, hw'⟩ := appL ho1 (by omega) o1.lr (byt_leb _) (by have := hlen j (by omega); have := leb_len (H.l.getD j 0); omega)
  have q5 : allB (fun b => h.n ≤ b ∨ R b) r' := qO fun b _ => .inr (hR b)
  have q6 : allB (fun b => h.n ≤ b ∨ W b) w' := qO fun b hb => .inl (by have := hw' b hb; omega)
  simp -implicitDefEqProofs (disch := omega) only [go_sem, seval, ↓reduceIte, t3, t5, qU jO, hap', q5, q6]
  refine ⟨k - 1, by omega, j + 1, v', by omega, rfl, by simp, by rw [kG _ (by omega), k1 _ (by omega)]; exact hcl, ?_, by omega, fun b hb => by rw [kG b (by omega), k1 b (by omega), kg b hb]⟩
  have e : ((H.l.take (j + 1)).map leb).flatten = ((H.l.take j).map leb).flatten ++ leb (H.l.getD j 0) := by
   have : H.l.take (j + 1) = H.l.take j ++ [H.l.getD j 0] := by
    rw [List.take_add_one, List.getD_eq_getElem?_getD, List.getElem?_eq_getElem (show j < H.l.length from hc)]; rfl
   rw [this]; simp
  rw [e]; exact ho'
 ·have hci : ¬ (j : Int) < 6 := by omega
  obtain rfl : j = 6 := by omega
  simp -implicitDefEqProofs (disch := omega) only [go_sem, seval, ↓reduceIte, ir80_l0, t3, t4, t5]
  have e6 : ((H.l.take 6).map leb).flatten = joinB H := rfl
  rw [e6] at ho
  refine qK.of (rfull_ok ho.lr (fun b => .inr (hR b)) (by have := joinB_len H; omega) (byt_joinB H)) ?_
  rintro r g1 ⟨o1, n1, k1⟩
  simp -implicitDefEqProofs (disch := omega) only [go_sem, seval, ↓reduceIte]
  exact ⟨o1.mono (by omega), by omega, fun b hb => by rw [k1 b (by omega), kg b hb]⟩
set_option maxHeartbeats 4000000 in
theorem rbig_ok {n : Nat} (hn : n < 18446744073709551616) (hR : ∀ b, R b) : SF Try.prog 83 [.int .u64 (n : Int)] h R W fun r g => Own h.n g r (zK n) 5 ∧ h.n ≤ g.n ∧ ∀ b, b < h.n → g.get b = h.get b := by
 refine SF.go hm Try.func83 ir83_eq ?_
 simp -implicitDefEqProofs (disch := omega) only [go_sem, seval, ↓reduceIte, reduceCtorEq, ir83]
 refine kE.inv hm (fun k f g => f.mks = [] ∧ f.tm.n = 18 ∧ f.tm.get 3 = some (.slice (some (h.n, 0)) 8 8 true) ∧ k ≤ 8 ∧ f.tm.get 0 = some (.int .u64 ((n / 256 ^ (8 - k) : Nat) : Int)) ∧ f.tm.get 4 = some (.int .i64 ((k : Int) - 1)) ∧ h.n + 1 ≤ g.n ∧ (∀ b, b < h.n → g.get b = h.get b) ∧ ∃ c, g.get h.n = some (.cells c 5) ∧ c.size = 8 ∧ c.ro = false ∧ ∀ j, k ≤ j → j < 8 → c.get j = bV (n / 256 ^ (7 - j))) 8 ?_ ?_
 ·exact ⟨rfl, rfl, by simp -implicitDefEqProofs (disch := omega) only [go_sem, seval, ↓reduceIte, reduceCtorEq], Nat.le_refl _, by simp -implicitDefEqProofs (disch := omega) only [go_sem, seval, ↓reduceIte]; simp, by simp -implicitDefEqProofs (disch := omega) only [go_sem, seval, ↓reduceIte, reduceCtorEq], by simp, fun b hb => by rw [qC (by omega)], _, qH rfl _, rfl, rfl, fun j h1 h2 => by omega⟩
 rintro k ⟨⟨n', tr⟩, mks⟩ g ⟨hmk, hn', t3, hk8, t0, t4, hng, kg, c, c1, c2, c3, c4⟩
 simp only [Tm.kL] at hmk hn' t0 t3 t4
 subst hmk hn'
 obtain ⟨m, em⟩ : ∃ m, m = n / 256 ^ (8 - k) := ⟨_, rfl⟩
 have hmn : m ≤ n := by rw [em]; exact Nat.div_le_self _ _
 rw [← em] at t0
 cases k with
 | zero =>
  have hci : ¬ (0 : Int) ≤ ((0 : Nat) : Int) - 1 := by omega
  simp -implicitDefEqProofs (disch := omega) only [go_sem, seval, ↓reduceIte, ir83_l0, t3, t4]
  refine ⟨.inr ⟨h.n, true, c, by simp [zK], rfl, Nat.le_refl _, c1, c2, c3, Blk.jH (fun j hj => ?_) rfl⟩, by omega, kg⟩
  have hj8 : j < 8 := hj
  rw [Nat.zero_add, c4 j (by omega) hj8, List.getD_eq_getElem?_getD, big_get n hj8]
  have : (256 : Nat) ^ (7 - j) = 2 ^ (56 - 8 * j) := by rw [show (256 : Nat) = 2 ^ 8 from rfl, ← Nat.pow_mul, show 8 * (7 - j) = 56 - 8 * j by omega]
  rw [this]; rfl
 | succ k =>
  have hci : (0 : Int) ≤ ((k + 1 : Nat) : Int) - 1 := by omega
  have ek : ((k + 1 : Nat) : Int) - 1 = (k : Int) := by omega
  have hk0 : (0 : Int) ≤ (k : Int) := by omega
  have hc8 : (k : Int) < ((8 : Nat) : Int) := by omega
  have hc9 : (k : Int) < 8 := by omega
  have hks : k < c.size := by omega
  have e1 : IntKind.u8.wrap (m : Int) = ((m % 256 : Nat) : Int) := wrap8 m
  have e2 : (m : Int).tdiv 256 = ((m / 256 : Nat) : Int) := rfl
  have e3 : IntKind.u64.wrap ((m / 256 : Nat) : Int) = ((m / 256 : Nat) : Int) := wrap64 (by omega)
  have hlt := Heap.lt_of_get c1
  have hWn : h.n ≤ h.n := Nat.le_refl _
  rw [ek] at t4
  simp -implicitDefEqProofs (disch := omega) only [go_sem, seval, ↓reduceIte, reduceCtorEq, ir83_l0, qE, t0, t3, t4, hk0, hc9, c1, c3, cv42_5, c42_5, e1, e2, e3, hWn]
  refine ⟨k, by omega, by omega, ?_, rfl, by omega, fun b hb => by rw [qB hlt (by omega)]; exact kg b hb, c.set k (.int .u8 ((m % 256 : Nat) : Int)), rfl, by rw [Blk.size_set]; exact c2, by rw [Blk.qY]; exact c3, fun j h1 h2 => ?_⟩
  ·rw [em, Nat.div_div_eq_div_mul, ← Nat.pow_succ, show (8 - (k + 1)).succ = 8 - k by omega]
  ·rw [Blk.get_set]
   by_cases hjk : j = k
   ·subst hjk
    rw [if_pos rfl, em, show 8 - (j + 1) = 7 - j by omega]; rfl
   ·rw [if_neg hjk, c4 j (by omega) h2]
set_option maxHeartbeats 8000000 in
theorem rpart_ok {S : Set'} {v : V} {l : List V} {num ep pl of : Nat} (hnum : num < 18446744073709551616) (hep : ep < 18446744073709551616) (hp : pl < 256) (ho : of < 256) (hv : LR h S v l) (hS : ∀ b, S b → b < h.n) (hl : l.length ≤ 108) (hb : Byt l) (hR : ∀ b, R b) : SF Try.prog 55 [.int .u64 (num : Int), .int .u64 (ep : Int), .int .i64 (pl : Int), .int .i64 (of : Int), v] h R W fun r g => Own h.n g r (kV num ep pl of l) 5 ∧ h.n ≤ g.n ∧ ∀ b, b < h.n → g.get b = h.get b := by
 have hR' : ∀ b, h.n ≤ b ∨ R b := fun b => .inr (hR b)
 have hlen := hv.lenV Try.underlying22
 refine SF.go hm Try.func55 ir55_eq ?_
 simp -implicitDefEqProofs (disch := omega) only [go_sem, seval, ↓reduceIte, reduceCtorEq, ir55]
 refine qK.of (rbig_ok hnum hR') ?_
 rintro r1 g1 ⟨o1, n1, k1⟩
 have w1 := o1.lr.one
 simp -implicitDefEqProofs (disch := omega) only [go_sem, seval, ↓reduceIte, reduceCtorEq]
 refine qK.of (rbig_ok hep hR') ?_
 rintro r2 g2 ⟨o2, n2, k2⟩
 obtain ⟨v3, g3, r3, w3, hap3, o3, n3, k3, hw3⟩ := appL (o1.old k2) (by omega) o2.lr (yS _) (by simp [yI])
 have q3 : allB (fun b => h.n ≤ b ∨ R b) r3 := qO fun b _ => hR' b
 have q4 : allB (fun b => h.n ≤ b ∨ W b) w3 := qO fun b hb => .inl (hw3 b hb)
 have v3o := o3.lr.one
 have e1 : IntKind.u8.wrap (pl : Int) = (pl : Int) := by rw [wrap8, Nat.mod_eq_of_lt hp]
 have e2 : IntKind.u8.wrap (of : Int) = (of : Int) := by rw [wrap8, Nat.mod_eq_of_lt ho]
 have e3 : IntKind.u8.wrap (l.length : Int) = (l.length : Int) := by rw [wrap8, Nat.mod_eq_of_lt (by omega)]
 have hp3 := LR.push g3 [.int .u8 (pl : Int), .int .u8 (of : Int), .int .u8 (l.length : Int)] 5
 obtain ⟨v4, g4, r4, w4, hap4, o4, n4, k4, hw4⟩ := appL (o3.old (h' := g3.push (.cells (Blk.of [.int .u8 (pl : Int), .int .u8 (of : Int), .int .u8 (l.length : Int)]) 5)) fun b hb => by rw [qC (by omega)]) (by rw [Heap.qG]; omega) hp3 (Byt.cons ⟨_, rfl, by omega, by omega⟩ (Byt.cons ⟨_, rfl, by omega, by omega⟩ (Byt.cons ⟨_, rfl, by omega, by omega⟩ Byt.nil))) (by simp [yI])
 rw [Heap.qG] at n4
 have q5 : allB (fun b => h.n ≤ b ∨ R b) r4 := qO fun b _ => hR' b
 have q6 : allB (fun b => h.n ≤ b ∨ W b) w4 := qO fun b hb => .inl (hw4 b hb)
 have v4o := o4.lr.one
 have kk : ∀ k, k < h.n → g4.get k = h.get k := fun k hk => by rw [k4 k hk, qC (by omega), k3 k hk, k2 k (by omega), k1 k hk]
 have hv4 : LR g4 S v l := hv.old kk
 obtain ⟨v5, g5, r5, w5, hap5, o5, n5, k5, hw5⟩ := appL o4 (by omega) hv4 hb (by simp [yI]; omega)
 have q7 : allB (fun b => h.n ≤ b ∨ R b) r5 := qO fun b _ => hR' b
 have q8 : allB (fun b => h.n ≤ b ∨ W b) w5 := qO fun b hb => .inl (hw5 b hb)
 have hvo := hv.one
 simp only [List.length_cons, List.length_nil] at hap4
 simp -implicitDefEqProofs (disch := omega) only [go_sem, seval, ↓reduceIte, reduceCtorEq, ↓hlen, ↓cv3_5, c3_5, e1, e2, e3, qU jO, hap3, hap4, hap5, q3, q4, q5, q6, q7, q8]
 have hbl : zK num ++ zK ep ++ [.int .u8 (pl : Int), .int .u8 (of : Int), .int .u8 (l.length : Int)] ++ l = zK num ++ zK ep ++ [bV pl, bV of, bV l.length] ++ l := by
  rw [← bV_lt hp, ← bV_lt ho, ← bV_lt (show l.length < 256 by omega)]
 rw [hbl] at o5
 refine qK.of (rfull_ok o5.lr hR' (by simp [yI]; omega) ((((yS _).app (yS _)).app (Byt.cons (xI _) (Byt.cons (xI _) (Byt.cons (xI _) Byt.nil)))).app hb)) ?_
 rintro r6 g6 ⟨o6, n6, k6⟩
 simp -implicitDefEqProofs (disch := omega) only [go_sem, seval, ↓reduceIte, reduceCtorEq]
 exact ⟨o6.mono (by omega), by omega, fun b hb => by rw [k6 b (by omega), k5 b hb, kk b hb]⟩
end Go.Proofs.Ytakgjjbmniilhaa
set_option maxRecDepth 100000
set_option linter.unusedVariables false
namespace Go.Proofs.Ytakgjjbmniilhaa
open Go Go.Vm
attribute [-go_sem] qQ
variable {h g : Heap} {R W M N : Set'}
structure RRd (h : Heap) (b nb o cap : Nat) (ex : Bool) (l : List V) (a : Nat) : Prop where
 cl : ∃ c, h.get b = some (.cells c 161) ∧ c.size = 2 ∧ c.ro = false ∧ c.get 0 = .slice (some (nb, o)) l.length cap ex ∧ c.get 1 = .int .i64 (a : Int)
 bf : ∃ c ce, h.get nb = some (.cells c ce) ∧ o + l.length ≤ c.size ∧ c.gets o l.length = l
 ne : nb ≠ b
def RrQ (h : Heap) (b nb o cap : Nat) (ex : Bool) (l : List V) (a : Nat) (r : V) (g : Heap) : Prop := (∀ k, k < h.n → k ≠ b → g.get k = h.get k) ∧ g.n = h.n ∧ match rd (l.drop a) with
  | some (n, t) => r = .tuple [.int .u64 (n : Int), .int .i64 0] ∧ ∃ a', a' ≤ l.length ∧ l.drop a' = t ∧ RRd g b nb o cap ex l a'
  | none => r = .tuple [.int .u64 0, .int .i64 4]
set_option maxHeartbeats 8000000 in
theorem rrnum_ok {b nb a o cap : Nat} {ex : Bool} {l : List V} (hr : RRd h b nb o cap ex l a) (hR : ∀ b, R b) (hW : W b) (hl : l.length ≤ 1000) (hb : Byt l) (ha : a ≤ l.length) : SF Try.prog 94 [.ptr (some (b, 0))] h R W (RrQ h b nb o cap ex l a) := by
 obtain ⟨⟨c, h1, h2, h3, h4, h5⟩, ⟨c', ce, h6, h7, h8⟩, h9⟩ := hr
 have hRb := hR b
 have hRn := hR nb
 have hlen : ∀ g, lenV Try.prog 22 (.slice (some (nb, o)) l.length cap ex) g = some (l.length, []) := fun g => by simp [lenV, Try.underlying22]
 refine SF.go hm Try.func94 ir94_eq ?_
 simp -implicitDefEqProofs (disch := omega) only [go_sem, seval, ↓reduceIte, reduceCtorEq, ir94]
 refine kE.inv hm (fun k f g' => f.mks = [] ∧ f.tm.n = 72 ∧ g' = h ∧ f.tm.get 0 = some (.ptr (some (b, 0))) ∧ ∃ (i m : Nat), i + k = 10 ∧ i ≤ 9 ∧ a + i ≤ l.length ∧ f.tm.get 4 = some (.int .u64 (m : Int)) ∧ f.tm.get 5 = some (.int .i64 (i : Int)) ∧ m < 2 ^ (7 * i) ∧ rdB (7 * i) m (l.drop (a + i)) = rd (l.drop a)) 10 ?_ ?_
 ·exact ⟨rfl, rfl, rfl, by simp -implicitDefEqProofs (disch := omega) only [go_sem, seval, ↓reduceIte], 0, 0, by omega, by omega, by omega, by simp -implicitDefEqProofs (disch := omega) only [go_sem, seval, ↓reduceIte, reduceCtorEq], by simp -implicitDefEqProofs (disch := omega) only [go_sem, seval, ↓reduceIte, reduceCtorEq], by decide, rfl⟩
 rintro k ⟨⟨n', tr⟩, mks⟩ g' ⟨hmk, hn', rfl, t0, i, m, hik, hi9, hai, t4, t5, hms, hrd⟩
 simp only [Tm.kL] at hmk hn' t0 t4 t5
 subst hmk hn'
 have hc10 : (i : Int) < 10 := by omega
 have ep : (a : Int) + (i : Int) = ((a + i : Nat) : Int) := by omega
 by_cases hp : a + i < l.length
 rotate_left
 ·have hc : ¬ ((a + i : Nat) : Int) < (l.length : Int) := by omega
  rw [List.drop_eq_nil_of_le (by omega)] at hrd
  simp -implicitDefEqProofs (disch := omega) only [go_sem, seval, ↓reduceIte, reduceCtorEq, ir94_l0, t0, t5, h1, h2, h4, h5, hRb, hc10, ep, ↓hlen, hc]
  exact ⟨fun _ _ _ => rfl, rfl, by rw [← hrd]; rfl⟩
 have hc : ((a + i : Nat) : Int) < (l.length : Int) := by omega
 have hp0 : (0 : Int) ≤ ((a + i : Nat) : Int) := by omega
 obtain ⟨hb1, hb2⟩ := bN_lt hb (List.getElem_mem hp)
 obtain ⟨n, hn⟩ : ∃ n, n = bN l[a + i] := ⟨_, rfl⟩
 rw [← hn] at hb1 hb2
 have hcp : c'.get (o + (a + i)) = .int .u8 (n : Int) := by
  have := Blk.qM c' l.length o (a + i) hp
  rw [h8, List.getElem?_eq_getElem hp] at this
  rw [← Option.some.inj this]; exact hb2
 have hbs : o + (a + i) < c'.size := by omega
 rw [List.drop_eq_getElem_cons hp] at hrd
 simp only [rdB, ← hn] at hrd
 by_cases hbad : (7 * i = 63 ∧ 1 < n) ∨ (0 < 7 * i ∧ n = 0)
 ·rw [if_pos hbad] at hrd
  have fin : RrQ g' b nb o cap ex l a (.tuple [.int .u64 0, .int .i64 4]) g' := ⟨fun _ _ _ => rfl, rfl, by rw [← hrd]⟩
  by_cases h63 : i = 9
  ·have q63 : ((i : Int) == 9) = true := by simp; omega
   have qs : (0 : Int) < (i : Int) := by omega
   by_cases h1n : 1 < n
   ·have q1 : (1 : Int) < (n : Int) := by omega
    simp -implicitDefEqProofs (disch := omega) only [go_sem, seval, ↓reduceIte, reduceCtorEq, ir94_l0, qE, t0, t5, h1, h2, h4, h5, hRb, hc10, ep, ↓hlen, hc, hp0, h6, hRn, hcp, q63, q1]
    exact fin
   ·have q1 : ¬ (1 : Int) < (n : Int) := by omega
    have q0 : ((n : Int) == 0) = true := by simp; omega
    simp -implicitDefEqProofs (disch := omega) only [go_sem, seval, ↓reduceIte, reduceCtorEq, ir94_l0, t0, t5, h1, h2, h4, h5, hRb, hc10, ep, ↓hlen, hc, hp0, h6, hRn, hcp, q63, q1, qs, q0]
    exact fin
  ·have q63 : ((i : Int) == 9) = false := by simp; omega
   have qs : (0 : Int) < (i : Int) := by omega
   have q0 : ((n : Int) == 0) = true := by simp; omega
   simp -implicitDefEqProofs (disch := omega) only [go_sem, seval, ↓reduceIte, reduceCtorEq, ir94_l0, qE, t0, t5, h1, h2, h4, h5, hRb, hc10, ep, ↓hlen, hc, hp0, h6, hRn, hcp, q63, qs, q0]
   exact fin
 rw [if_neg hbad] at hrd
 have hs64 : 7 * i < 64 := by omega
 have hm64 : m < 18446744073709551616 := Nat.lt_of_lt_of_le hms (Nat.pow_le_pow_right (by omega) (show 7 * i ≤ 64 by omega))
 have hx : n % 128 * 2 ^ (7 * i) < 18446744073709551616 ∧ m + n % 128 * 2 ^ (7 * i) < 18446744073709551616 := by
  by_cases h63 : i = 9
  ·subst h63
   have : n ≤ 1 := by omega
   have : n % 128 ≤ 1 := by omega
   have e63 : (2 : Nat) ^ (7 * 9) = 9223372036854775808 := by decide
   rw [e63] at hms ⊢
   omega
  ·have h1 : 2 ^ (7 * i) ≤ 2 ^ 56 := Nat.pow_le_pow_right (by omega) (by omega)
   have h2 : n % 128 ≤ 127 := by omega
   have := Nat.mul_le_mul h2 h1
   simp at this h1 ⊢; omega
 have hsh := shl64 (n % 128) (7 * i) hs64 hx.1
 have e7 : (7 : Int) * (i : Int) = ((7 * i : Nat) : Int) := by omega
 have e8 : (n : Int).tmod 128 = ((n % 128 : Nat) : Int) := rfl
 have e9 : IntKind.u8.wrap ((n % 128 : Nat) : Int) = ((n % 128 : Nat) : Int) := by rw [wrap8, Nat.mod_eq_of_lt (by omega)]
 have e10 : IntKind.u64.wrap ((n % 128 : Nat) : Int) = ((n % 128 : Nat) : Int) := wrap64 (by omega)
 have e11 : (m : Int) + ((n % 128 * 2 ^ (7 * i) : Nat) : Int) = ((m + n % 128 * 2 ^ (7 * i) : Nat) : Int) := by omega
 have e12 : IntKind.u64.wrap ((m + n % 128 * 2 ^ (7 * i) : Nat) : Int) = ((m + n % 128 * 2 ^ (7 * i) : Nat) : Int) := wrap64 hx.2
 have e13 : ((a + i : Nat) : Int) + 1 = ((a + i + 1 : Nat) : Int) := by omega
 have done : n < 128 → ∀ g2, g2 = g'.set b (.cells (c.set 1 (.int .i64 ((a + i + 1 : Nat) : Int))) 161) → RrQ g' b nb o cap ex l a (.tuple [.int .u64 ((m + n % 128 * 2 ^ (7 * i) : Nat) : Int), .int .i64 0]) g2 := fun h128 g2 eg => by
  rw [if_pos h128] at hrd
  subst eg
  refine ⟨fun k _ hk => qB (Heap.lt_of_get h1) hk _, by simp, ?_⟩
  rw [← hrd]
  exact ⟨rfl, a + i + 1, by omega, rfl, ⟨⟨_, qF (Heap.lt_of_get h1) rfl _, by rw [Blk.size_set]; exact h2, by rw [Blk.qY]; exact h3, by rw [Blk.get_set, if_neg (by omega)]; exact h4, by rw [Blk.get_set, if_pos rfl]⟩, ⟨c', ce, by rw [qB (Heap.lt_of_get h1) h9]; exact h6, h7, h8⟩, h9⟩⟩
 by_cases h63 : i = 9
 ·have q63 : ((i : Int) == 9) = true := by simp; omega
  have qs : (0 : Int) < (i : Int) := by omega
  have q1 : ¬ (1 : Int) < (n : Int) := by omega
  have q0 : ((n : Int) == 0) = false := by simp; omega
  have q128 : (n : Int) < 128 := by omega
  simp -implicitDefEqProofs (disch := omega) only [go_sem, seval, ↓reduceIte, reduceCtorEq, ir94_l0, qE, t0, t4, t5, h1, h2, h4, h5, hRb, hc10, ep, ↓hlen, hc, hp0, h6, hRn, hcp, q63, q1, qs, q0, q128, e7, e8, e10, ↓hsh, e11, e12, e13, h3, hW, cv5_42, c5_42]
  exact done (by omega) _ rfl
 have q63 : ((i : Int) == 9) = false := by simp; omega
 by_cases hs0 : 0 < i
 ·have qs : (0 : Int) < (i : Int) := by omega
  have q0 : ((n : Int) == 0) = false := by simp; omega
  by_cases h128 : n < 128
  ·have q128 : (n : Int) < 128 := by omega
   simp -implicitDefEqProofs (disch := omega) only [go_sem, seval, ↓reduceIte, reduceCtorEq, ir94_l0, qE, t0, t4, t5, h1, h2, h4, h5, hRb, hc10, ep, ↓hlen, hc, hp0, h6, hRn, hcp, q63, qs, q0, q128, e7, e8, e10, ↓hsh, e11, e12, e13, h3, hW, cv5_42, c5_42]
   exact done h128 _ rfl
  ·have q128 : ¬ (n : Int) < 128 := by omega
   rw [if_neg h128] at hrd
   simp -implicitDefEqProofs (disch := omega) only [go_sem, seval, ↓reduceIte, reduceCtorEq, ir94_l0, qE, t0, t4, t5, h1, h2, h4, h5, hRb, hc10, ep, ↓hlen, hc, hp0, h6, hRn, hcp, q63, qs, q0, q128, e7, e8, e10, ↓hsh, e11, e12, cv5_42, c5_42]
   have hbd : m + n % 128 * 2 ^ (7 * i) < 2 ^ (7 * (i + 1)) := by
    rw [show 7 * (i + 1) = 7 * i + 7 by omega, Nat.pow_add]
    have := Nat.mul_le_mul_right (2 ^ (7 * i)) (show n % 128 ≤ 127 by omega)
    have e7 : 2 ^ 7 = 128 := by decide
    rw [e7]; omega
   exact ⟨k - 1, by omega, i + 1, m + n % 128 * 2 ^ (7 * i), by omega, by omega, by omega, rfl, by simp, hbd, by rw [show 7 * (i + 1) = 7 * i + 7 by omega, show a + (i + 1) = a + i + 1 by omega]; exact hrd⟩
 ·have qs : ¬ (0 : Int) < (i : Int) := by omega
  by_cases h128 : n < 128
  ·have q128 : (n : Int) < 128 := by omega
   simp -implicitDefEqProofs (disch := omega) only [go_sem, seval, ↓reduceIte, reduceCtorEq, ir94_l0, qE, t0, t4, t5, h1, h2, h4, h5, hRb, hc10, ep, ↓hlen, hc, hp0, h6, hRn, hcp, q63, qs, q128, e7, e8, e10, ↓hsh, e11, e12, e13, h3, hW, cv5_42, c5_42]
   exact done h128 _ rfl
  ·have q128 : ¬ (n : Int) < 128 := by omega
   rw [if_neg h128] at hrd
   simp -implicitDefEqProofs (disch := omega) only [go_sem, seval, ↓reduceIte, reduceCtorEq, ir94_l0, qE, t0, t4, t5, h1, h2, h4, h5, hRb, hc10, ep, ↓hlen, hc, hp0, h6, hRn, hcp, q63, qs, q128, e7, e8, e10, ↓hsh, e11, e12, cv5_42, c5_42]
   have hbd : m + n % 128 * 2 ^ (7 * i) < 2 ^ (7 * (i + 1)) := by
    rw [show 7 * (i + 1) = 7 * i + 7 by omega, Nat.pow_add]
    have := Nat.mul_le_mul_right (2 ^ (7 * i)) (show n % 128 ≤ 127 by omega)
    have e7 : 2 ^ 7 = 128 := by decide
    rw [e7]; omega
   exact ⟨k - 1, by omega, i + 1, m + n % 128 * 2 ^ (7 * i), by omega, by omega, by omega, rfl, by simp, hbd, by rw [show 7 * (i + 1) = 7 * i + 7 by omega, show a + (i + 1) = a + i + 1 by omega]; exact hrd⟩
end Go.Proofs.Ytakgjjbmniilhaa
