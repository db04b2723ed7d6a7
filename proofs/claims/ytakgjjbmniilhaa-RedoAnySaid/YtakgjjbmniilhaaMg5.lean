/- The log: the sectors of a half gone over. -/
import Derived.Test.YtakgjjbmniilhaaMg4
import Derived.Test.YtakgjjbmniilhaaV4
import Derived.Test.YtakgjjbmniilhaaV3
set_option linter.unusedVariables false
set_option maxRecDepth 100000
set_option linter.unusedVariables false
namespace Go.Proofs.Ytakgjjbmniilhaa
open Go Go.Vm
attribute [-go_sem] qQ
variable {h g : Heap} {R W M : Set'} {bd lp fr ct : Nat} {D : DS}
theorem appE_blk {e sz by' : Nat} {v x : V} {p : Pr} (hq : appE e sz by' v x g = some p) : sblk p.v = sblk v ∨ sblk p.v = g.n := by
 unfold appE at hq
 split at hq
 ·rename_i base sLen sCap ex n hn
  split at hq
  ·split at hq
   ·split at hq
    ·unfold xY at hq
     split at hq
     ·cases hq; exact .inl rfl
     ·split at hq
      ·split at hq
       ·split at hq
        ·split at hq
         ·cases hq; exact .inl rfl
         ·cases hq
        ·cases hq
       ·cases hq
      ·cases hq
    ·split at hq
     ·split at hq
      ·split at hq
       ·split at hq
        ·unfold yM at hq
         split at hq
         ·split at hq
          ·split at hq
           ·split at hq
            ·split at hq
             ·split at hq
              ·cases hq; exact .inr rfl
              ·cases hq
             ·cases hq
            ·cases hq
           ·cases hq
          ·cases hq
         ·cases hq; exact .inr rfl
        ·cases hq
       ·cases hq
      ·cases hq
     ·cases hq
   ·cases hq
  ·cases hq
 ·split at hq
  ·cases hq; exact .inl rfl
  ·cases hq
 ·cases hq
theorem one_cells {v : V} (h : v.one = true) : v.qZ = [v] := by
 cases v <;> simp_all [V.one, V.qZ]
def LogH (h : Heap) (lp bd fr ct : Nat) (H : Hd) : Prop := ∃ c, h.get lp = some (.cells c 47) ∧ c.size = 13 ∧ c.ro = false ∧ c.get 0 = .ptr (some (bd, 0)) ∧ c.get 1 = .int .i64 (fr : Int) ∧ c.get 2 = .int .i64 (ct : Int) ∧ c.gets 3 5 = H.v
theorem LogH.c {H : Hd} (hl : LogH h lp bd fr ct H) : LogC h lp bd fr ct := by
 obtain ⟨c, h1, h2, _, h3, h4, h5, _⟩ := hl
 exact ⟨c, h1, h2, h3, h4, h5⟩
def zH (D : DS) (fr ct ha : Nat) : Nat → List V := fun i => D.seen (fr + 2 + ha * ((ct - 2) / 2) + i)
theorem jG {c : Blk} {H : Hd} (hg : c.gets 3 5 = H.v) {j : Nat} (hj : j < 5) : c.get (3 + j) = H.v.getD j qE := by
 have := Blk.qM c 5 3 j hj
 rw [hg] at this
 rw [List.getD_eq_getElem?_getD, this]; rfl
theorem ok70 {at' : Int} : SF Try.prog 70 [.ptr (some (lp, 0)), .int .i64 at'] h R W fun r g => r = .func 91 [] [.ptr (some (h.n, 0)), .ptr (some (h.n + 1, 0))] ∧ g = (h.push (.cells (Blk.of [.ptr (some (lp, 0))]) 32)).push (.cells (Blk.of [.int .i64 at']) 3) := by
 refine SF.go hm Try.func70 ir70_eq ?_
 simp -implicitDefEqProofs (disch := omega) only [go_sem, seval, ↓reduceIte, reduceCtorEq, ir70]
set_option maxHeartbeats 8000000 in
theorem seq91 {b1 b2 a y : Nat} {H : Hd} (I : Nat → Heap → Prop) (J : Heap → Prop) (hc : 16 ≤ ct ∧ fr + ct ≤ D.n) (hD : D.n ≤ 4096) (hha : H.ha < 2) (hsec : ∀ s, s < D.n → (D.seen s).length = 128 ∧ Byt (D.seen s)) (h1 : h.get b1 = some (.cells (Blk.of [.ptr (some (lp, 0))]) 32)) (h2 : h.get b2 = some (.cells (Blk.of [.int .i64 (a : Int)]) 3)) (ha : a ≤ (ct - 2) / 2) (hI0 : I a h)
  (hx : ∀ p g, I p g → DkX g M bd D ∧ LogH g lp bd fr ct H ∧ g.get b1 = h.get b1 ∧ h.n ≤ g.n)
  (hkeep : ∀ p g g', I p g → g.n ≤ g'.n → (∀ b, b < g.n → g'.get b = g.get b) → I p g') (hW : ∀ b, W b → b < h.n)
  (hround : ∀ (p n0 : Nat) g v r, p < (ct - 2) / 2 → jT (zH D fr ct H.ha p) = some r → I p g → Own n0 g v r.dat 5 → h.n ≤ n0 → SY ⟨Try.prog, true⟩ y [.agg r.v, v] g (fun _ => True) (fun b => h.n ≤ b ∨ W b) (fun x g' => (x = .bool true ∧ I (p + 1) g' ∨ x = .bool false ∧ J g') ∧ ∀ b c, h.n ≤ b → g.get b = some (.cells c 86) → g'.get b = g.get b)) :
  SF ⟨Try.prog, true⟩ 91 [.yield y, .ptr (some (b1, 0)), .ptr (some (b2, 0))] h (fun _ => True) W fun _ g => (∃ p, a ≤ p ∧ p ≤ (ct - 2) / 2 ∧ I p g ∧ (p = (ct - 2) / 2 ∨ jT (zH D fr ct H.ha p) = none)) ∨ J g := by
 obtain ⟨hx0, hl0, _, _⟩ := hx a h hI0
 have hb1 := Heap.lt_of_get h1
 have hb2 := Heap.lt_of_get h2
 refine SF.go hm Try.func91 ir91_eq ?_
 simp -implicitDefEqProofs (disch := first | omega | (simp -implicitDefEqProofs only [szs, ne_eq] <;> omega) | fail) only [go_sem, seval, ↓reduceIte, reduceCtorEq, ir91, h1]
 refine qK.of (halves_ok hl0.c ⟨by omega, by omega⟩ (by omega) (fun _ => trivial)).any ?_
 rintro r h3 ⟨rfl, n3, k3⟩
 have h23 := (k3 b2 hb2).trans h2
 have kA : ∀ (o o' : O) k, k < h3.n → ((h3.push o).set h3.n o').get k = h3.get k := fun o o' k hk => by rw [qB (by simp) (by omega), qC (by omega)]
 have hI3 : ∀ o o', I a ((h3.push o).set h3.n o') := fun o o' => hkeep _ _ _ (hkeep _ _ _ hI0 n3 k3) (by simp) fun b hb => kA _ _ b hb
 simp -implicitDefEqProofs (disch := first | omega | (simp -implicitDefEqProofs only [szs, ne_eq] <;> omega) | fail) only [go_sem, seval, ↓reduceIte, reduceCtorEq, qE, h23]
 refine ⟨.inl n3, ?_⟩
 refine kE.inv hm (fun k f g => f.mks = [] ∧ f.tm.n = 55 ∧ f.tm.get 0 = some (.yield y) ∧ f.tm.get 1 = some (.ptr (some (b1, 0))) ∧ f.tm.get 4 = some (.ptr (some (h3.n, 0))) ∧ f.tm.get 5 = some (.int .i64 (((ct - 2) / 2 : Nat) : Int)) ∧ ∃ p : Nat, p + k = (ct - 2) / 2 ∧ a ≤ p ∧ f.tm.get 6 = some (.int .i64 (p : Int)) ∧ I p g ∧ ∃ c, g.get h3.n = some (.cells c 86) ∧ c.size = 2 ∧ c.get 0 = .int .i64 ((fr + 2 : Nat) : Int) ∧ c.get 1 = .int .i64 ((fr + 2 + (ct - 2) / 2 : Nat) : Int)) ((ct - 2) / 2 - a) ?_ ?_
 ·exact ⟨rfl, rfl, by simp -implicitDefEqProofs (disch := first | omega | (simp -implicitDefEqProofs only [szs, ne_eq] <;> omega) | fail) only [go_sem, seval, ↓reduceIte], by simp -implicitDefEqProofs (disch := first | omega | (simp -implicitDefEqProofs only [szs, ne_eq] <;> omega) | fail) only [go_sem, seval, ↓reduceIte, reduceCtorEq], by simp -implicitDefEqProofs (disch := first | omega | (simp -implicitDefEqProofs only [szs, ne_eq] <;> omega) | fail) only [go_sem, seval, ↓reduceIte, reduceCtorEq], by simp -implicitDefEqProofs (disch := first | omega | (simp -implicitDefEqProofs only [szs, ne_eq] <;> omega) | fail) only [go_sem, seval, ↓reduceIte, reduceCtorEq], a, by omega, Nat.le_refl _, by simp -implicitDefEqProofs (disch := first | omega | (simp -implicitDefEqProofs only [szs, ne_eq] <;> omega) | fail) only [go_sem, Nat.reduceSub, Nat.reduceMod, Nat.reduceDiv, ↓reduceIte, reduceCtorEq], hI3 _ _, _, qF (by simp) rfl _, rfl, rfl, rfl⟩
 rintro k ⟨⟨n', tr⟩, mks⟩ g ⟨hmk, hn', t0, t1, t4, t5, p, hpk, hap, t6, hI, ca, a1, a2, a3, a4⟩
 simp only [Tm.kL] at hmk hn' t0 t1 t4 t5 t6
 subst hmk hn'
 obtain ⟨hxg, hlg, hg1, hgn⟩ := hx p g hI
 rw [h1] at hg1
 by_cases hp : p < (ct - 2) / 2
 rotate_left
 ·have hc2 : ¬ (p : Int) < (((ct - 2) / 2 : Nat) : Int) := by omega
  simp -implicitDefEqProofs (disch := first | omega | (simp -implicitDefEqProofs only [szs, ne_eq] <;> omega) | fail) only [go_sem, seval, ↓reduceIte, ir91_l0, t5, t6, hc2]
  exact .inl ⟨p, hap, by omega, hI, .inl (by omega)⟩
 have hc2 : (p : Int) < (((ct - 2) / 2 : Nat) : Int) := by omega
 obtain ⟨cl, l1, l2, l3, l4, l5, l6, l7⟩ := hlg
 have l8 : cl.get 5 = .int .u64 (H.ha : Int) := jG l7 (j := 2) (by omega)
 have hA : (H.ha : Int) < ((2 : Nat) : Int) := by omega
 have hA0 : (0 : Int) ≤ (H.ha : Int) := by omega
 have ag : ca.get H.ha = .int .i64 ((fr + 2 + H.ha * ((ct - 2) / 2) : Nat) : Int) := by
  have : H.ha = 0 ∨ H.ha = 1 := by omega
  rcases this with e | e <;> rw [e]
  ·rw [a3, Nat.zero_mul, Nat.add_zero]
  ·rw [a4, Nat.one_mul]
 have hmul : H.ha * ((ct - 2) / 2) ≤ (ct - 2) / 2 := by
  have := Nat.mul_le_mul_right ((ct - 2) / 2) (show H.ha ≤ 1 by omega); omega
 have e1 : ((fr + 2 + H.ha * ((ct - 2) / 2) : Nat) : Int) + (p : Int) = ((fr + 2 + H.ha * ((ct - 2) / 2) + p : Nat) : Int) := by omega
 have hsn : fr + 2 + H.ha * ((ct - 2) / 2) + p < D.n := by
  have : H.ha * ((ct - 2) / 2) + p < 2 * ((ct - 2) / 2) := by
   have : H.ha = 0 ∨ H.ha = 1 := by omega
   rcases this with e | e <;> rw [e] <;> omega
  omega
 obtain ⟨q1, q2⟩ := hsec _ hsn
 have hbl : H.ha < ca.size := by omega
 simp -implicitDefEqProofs (disch := first | omega | (simp -implicitDefEqProofs only [szs, ne_eq] <;> omega) | fail) only [go_sem, Nat.reduceAdd, Nat.reduceEqDiff, ↓reduceIte, ir91_l0, qE, t1, t4, t5, t6, hc2, hg1, l1, l2, l4, l8, hA, hA0, a1, a2, ag, e1]
 refine qN.of (R' := fun _ => True) (W' := fun _ => False) ((read_dk (R := fun _ => True) (W := fun _ => False) hxg (fun _ => trivial) hsn).any.foot (fun _ h => h) (fun _ h => h)) ?_
 rintro r g1 ⟨b, rfl, hb, n1, k1⟩
 simp -implicitDefEqProofs (disch := first | omega | (simp -implicitDefEqProofs only [szs, ne_eq] <;> omega) | fail) only [go_sem, seval, ↓reduceIte]
 refine ⟨fun b _ hh => hh.elim, ?_⟩
 refine qK.of ((SF.any (M := ⟨Try.prog, true⟩) (recread_ok (R := fun _ => True) (W := noW) hb q1 q2 (fun _ => trivial))).foot (fun _ h => h) (fun b (hh : noW b) => hh.elim)) ?_
 rintro r g2 ⟨m, v, rfl, hm1, hm2, hv1, hrec, n2, k2⟩
 have hvc : v.qZ = [v] := one_cells hv1
 have kk : ∀ k, k < g.n → g2.get k = g.get k := fun k hk => by rw [k2 k (by omega), k1 k hk]
 have hWn : h.n ≤ g2.n := by omega
 cases hr : jT (zH D fr ct H.ha p) with
 | none =>
  rw [show D.seen (fr + 2 + H.ha * ((ct - 2) / 2) + p) = zH D fr ct H.ha p from rfl, hr, Option.isSome_none]
  simp -implicitDefEqProofs (disch := first | omega | (simp -implicitDefEqProofs only [szs, ne_eq] <;> omega) | fail) only [go_sem, seval, ↓reduceIte, qE, hm1, hm2, hWn]
  exact .inl ⟨p, hap, by omega, hkeep _ _ _ (hkeep _ _ _ hI (by omega) kk) (by simp) fun b hb => by rw [qB (by simp) (by omega), qC (by omega)], .inr hr⟩
 | some r =>
  obtain ⟨rfl, ho⟩ := hrec r hr
  rw [show D.seen (fr + 2 + H.ha * ((ct - 2) / 2) + p) = zH D fr ct H.ha p from rfl, hr, Option.isSome_some]
  simp -implicitDefEqProofs (disch := first | omega | (simp -implicitDefEqProofs only [szs, ne_eq] <;> omega) | fail) only [go_sem, seval, ↓reduceIte, reduceCtorEq, qE, t0, hm1, hm2, hWn]
  have ev : [((Blk.of [V.int IntKind.u64 0, V.int IntKind.u64 0, V.int IntKind.u8 0, V.int IntKind.u8 0]).puts 0 r.v).get 0, ((Blk.of [V.int IntKind.u64 0, V.int IntKind.u64 0, V.int IntKind.u8 0, V.int IntKind.u8 0]).puts 0 r.v).get 1, ((Blk.of [V.int IntKind.u64 0, V.int IntKind.u64 0, V.int IntKind.u8 0, V.int IntKind.u8 0]).puts 0 r.v).get 2, ((Blk.of [V.int IntKind.u64 0, V.int IntKind.u64 0, V.int IntKind.u8 0, V.int IntKind.u8 0]).puts 0 r.v).get 3] = r.v := rfl
  rw [ev]
  obtain ⟨g3, e3⟩ : ∃ g3, g3 = (g2.push (.cells (Blk.of [V.int IntKind.u64 0, V.int IntKind.u64 0, V.int IntKind.u8 0, V.int IntKind.u8 0]) 90)).set g2.n (.cells ((Blk.of [V.int IntKind.u64 0, V.int IntKind.u64 0, V.int IntKind.u8 0, V.int IntKind.u8 0]).puts 0 r.v) 90) := ⟨_, rfl⟩
  rw [← e3]
  have n3' : g3.n = g2.n + 1 := by rw [e3]; simp
  have k3' : ∀ k, k < g2.n → g3.get k = g2.get k := fun k hk => by rw [e3, qB (by simp) (by omega), qC (by omega)]
  clear e3
  have hI3' : I p g3 := hkeep _ _ _ (hkeep _ _ _ hI (by omega) kk) (by omega) k3'
  have a1' := (k3' _ (Nat.lt_of_lt_of_le (Heap.lt_of_get a1) (by omega))).trans ((kk _ (Heap.lt_of_get a1)).trans a1)
  refine GYield.of (SY.foot (hround p g1.n g3 v r hp hr hI3' (ho.old k3') (by omega)) (fun b _ => trivial) fun b hb => hb) ?_
  rintro x g4 ⟨hx4, h86⟩
  have a1'' := (h86 h3.n ca n3 a1').trans a1'
  rcases hx4 with ⟨rfl, hI4⟩ | ⟨rfl, hJ⟩
  ·simp -implicitDefEqProofs (disch := first | omega | (simp -implicitDefEqProofs only [szs, ne_eq] <;> omega) | fail) only [go_sem, seval, ↓reduceIte, reduceCtorEq, t0, t1, t4, t5, t6]
   exact ⟨k - 1, by omega, p + 1, by omega, by omega, by simp, hI4, ca, a1'', a2, a3, a4⟩
  ·simp -implicitDefEqProofs (disch := first | omega | (simp -implicitDefEqProofs only [szs, ne_eq] <;> omega) | fail) only [go_sem, seval, ↓reduceIte]
   exact .inr hJ
end Go.Proofs.Ytakgjjbmniilhaa
set_option maxRecDepth 100000
set_option linter.unusedVariables false
namespace Go.Proofs.Ytakgjjbmniilhaa
open Go Go.Vm
attribute [-go_sem] qQ
variable {h g : Heap} {R W M : Set'} {bd lp fr ct : Nat} {D : DS}
theorem ap_45 : apT Try.prog 45 45 = some (22, 1, 24) := by kernel_rfl
theorem appE_w {e sz by' : Nat} {v x : V} {p : Pr} (hq : appE e sz by' v x g = some p) : ∀ b ∈ p.w, b = sblk v := by
 unfold appE at hq
 split at hq
 ·rename_i base sLen sCap ex n hn
  split at hq
  ·split at hq
   ·split at hq
    ·unfold xY at hq
     split at hq
     ·cases hq; intro b hb; cases hb
     ·split at hq
      ·split at hq
       ·split at hq
        ·split at hq
         ·cases hq; intro b hb; simpa [sblk] using hb
         ·cases hq
        ·cases hq
       ·cases hq
      ·cases hq
    ·split at hq
     ·split at hq
      ·split at hq
       ·split at hq
        ·unfold yM at hq
         split at hq
         ·split at hq
          ·split at hq
           ·split at hq
            ·split at hq
             ·split at hq
              ·cases hq; intro b hb; simpa [sblk] using hb
              ·cases hq
             ·cases hq
            ·cases hq
           ·cases hq
          ·cases hq
         ·cases hq; intro b hb; cases hb
        ·cases hq
       ·cases hq
      ·cases hq
     ·cases hq
   ·cases hq
  ·cases hq
 ·split at hq
  ·cases hq; intro b hb; cases hb
  ·cases hq
 ·cases hq
noncomputable def ir35_b0_t3 : LC := (pk (fun l0 r => atP (irb Try.f35 [l0] [r 0] 0) [0, 0, 0, 1, 1, 1, 1]) _) xE rc35
noncomputable def ir35_b0_t2 : LC := (pk (fun l0 r p0 => jX (atP (irb Try.f35 [l0] [r 0] 0) [0, 0, 0, 1, 1]) [1, 1] p0) _) xE rc35 ir35_b0_t3
noncomputable def ir35_b0_t1 : LC := (pk (fun l0 r p0 => jX (atP (irb Try.f35 [l0] [r 0] 0) [0, 0, 0]) [1, 1] p0) _) xE rc35 ir35_b0_t2
noncomputable def ir35_b0_f2 : LC := (pk (fun l0 r => atP (irb Try.f35 [l0] [r 0] 0) [0, 1, 1, 1, 1, 1, 0]) _) xE rc35
noncomputable def ir35_b0_f1 : LC := (pk (fun l0 r p0 => jX (atP (irb Try.f35 [l0] [r 0] 0) [0, 1]) [1, 1, 1, 1, 0] p0) _) xE rc35 ir35_b0_f2
noncomputable def ir35_b0_c : LC := (pk (fun l0 r p0 p1 => jX (jX (irb Try.f35 [l0] [r 0] 0) [0, 0, 0] p0) [0, 1] p1) _) xE rc35 ir35_b0_t1 ir35_b0_f1
theorem ir35_b0_c_eq : ir35_b0 = ir35_b0_c := rfl
structure LdR (g : Heap) (lp bd fr ct bw n0 : Nat) (v10 v11 : V) (H : Hd) (s : LS) (c cw cr cn : Blk) (rv v : V) (vs : List V) : Prop where
 l1 : g.get lp = some (.cells c 47)
 l2 : c.size = 13
 l3 : c.ro = false
 k0 : c.get 0 = .ptr (some (bd, 0))
 k1 : c.get 1 = .int .i64 (fr : Int)
 k2 : c.get 2 = .int .i64 (ct : Int)
 k3 : c.gets 3 5 = H.v
 k8 : c.get 8 = .int .u64 (s.nx : Int)
 k9 : c.get 9 = .int .i64 (s.at' : Int)
 k10 : c.get 10 = v10
 k11 : c.get 11 = v11
 k12 : c.get 12 = rv
 w1 : g.get bw = some (.cells cw 90)
 w2 : cw.size = 4
 w3 : cw.ro = false
 a0 : cw.get 0 = .int .u64 (s.wn : Int)
 a1 : cw.get 1 = .int .u64 (s.we : Int)
 a2 : cw.get 2 = .int .u8 (s.wp : Int)
 a3 : cw.get 3 = .int .u8 (s.wo : Int)
 r1 : g.get (bw + 1) = some (.cells cr 22)
 r2 : cr.size = 1
 r3 : cr.ro = false
 r4 : cr.get 0 = v
 rd : Own n0 g v s.rc 5
 n1 : g.get (bw + 2) = some (.cells cn 3)
 n2 : cn.size = 1
 n3 : cn.ro = false
 n4 : cn.get 0 = .int .i64 (s.cn : Int)
 vd : Own n0 g rv vs 22
 vl : vs.length = s.rs.length
 ve : ∀ i l, s.rs[i]? = some l → LR g (fun b => n0 ≤ b ∧ b ≠ sblk v ∧ ∃ c, g.get b = some (.cells c 5)) (vs.getD i qE) l
def LdM (g : Heap) (lp bd fr ct bw n0 : Nat) (v10 v11 : V) (H : Hd) (s : LS) : Prop := ∃ c cw cr cn rv v vs, LdR g lp bd fr ct bw n0 v10 v11 H s c cw cr cn rv v vs
set_option maxHeartbeats 8000000 in
theorem t3_ok {Q : Ex → Fr → Heap → Prop} {t : List It} {mks : List Nat} {y bm bw xb : Nat} {cm cw cl cx : Blk} {r : Rc} {s : LS} {H : Hd} {tr : Tr V} (hR : ∀ b, R b)
  (t1 : tr.get 1 = some (.ptr (some (xb, 0)))) (t8 : tr.get 8 = some (.ptr (some (bw, 0)))) (t11 : tr.get 11 = some (.ptr (some (bm, 0))))
  (x1 : g.get xb = some (.cells cx 32)) (x2 : cx.size = 1) (x3 : cx.get 0 = .ptr (some (lp, 0)))
  (l1 : g.get lp = some (.cells cl 47)) (l2 : cl.size = 13) (l3 : cl.get 3 = .int .u64 (H.ep : Int))
  (m1 : g.get bm = some (.cells cm 90)) (m2 : cm.size = 4) (b0 : cm.get 0 = .int .u64 (r.num : Int)) (b1 : cm.get 1 = .int .u64 (r.ep : Int)) (b2 : cm.get 2 = .int .u8 (r.pl : Int)) (b3 : cm.get 3 = .int .u8 (r.of : Int))
  (w1 : g.get bw = some (.cells cw 90)) (w2 : cw.size = 4) (a0 : cw.get 0 = .int .u64 (s.wn : Int)) (a1 : cw.get 1 = .int .u64 (s.we : Int)) (a2 : cw.get 2 = .int .u8 (s.wp : Int)) (a3 : cw.get 3 = .int .u8 (s.wo : Int))
  (hbad : ((0 < r.pl ∧ (r.ep ≠ s.we ∨ r.of ≠ s.wo))) → ∀ tr', resume (⟨Try.prog, true⟩ : MP) R W (some y) Q t (.exit 2) ⟨⟨211, tr'⟩, mks⟩ g)
  (hgood : ¬ ((0 < r.pl ∧ (r.ep ≠ s.we ∨ r.of ≠ s.wo))) → ∀ tr', (∀ i, i = 1 ∨ i = 8 ∨ i = 9 ∨ i = 10 ∨ i = 11 ∨ i = 12 → tr'.get i = tr.get i) → GO (⟨Try.prog, true⟩ : MP) R W (some y) Q t ⟨⟨211, tr'⟩, mks⟩ g) :
  GO (⟨Try.prog, true⟩ : MP) R W (some y) Q (.code ir35_b0_t3 :: t) ⟨⟨211, tr⟩, mks⟩ g := by
 have ra := hR xb
 have rb := hR lp
 have rc := hR bm
 have rd := hR bw
 by_cases h3 : r.pl = 0
 ·have i3 : (r.pl : Int) = 0 := by omega
  have i6 : ¬ (0 : Int) < (r.pl : Int) := by omega
  simp -implicitDefEqProofs (disch := omega) only [go_sem, seval, ↓reduceIte, ir35_b0_t3, qE, t11, m1, m2, b2, rc, i3, Int.lt_irrefl]
  exact hgood (by omega) _ (by rintro i (rfl | rfl | rfl | rfl | rfl | rfl) <;> simp -implicitDefEqProofs (disch := omega) only [go_sem, seval, ↓reduceIte])
 have i6 : (0 : Int) < (r.pl : Int) := by omega
 by_cases h4 : r.ep = s.we
 rotate_left
 ·have i4 : ¬ (r.ep : Int) = (s.we : Int) := by omega
  simp -implicitDefEqProofs (disch := omega) only [go_sem, seval, ↓reduceIte, ir35_b0_t3, qE, t8, t11, m1, m2, b1, b2, w1, w2, a1, rc, rd, i6]
  exact hbad (by omega) _
 have i4 : (r.ep : Int) = (s.we : Int) := by omega
 by_cases h5 : r.of = s.wo
 rotate_left
 ·have i5 : ¬ (r.of : Int) = (s.wo : Int) := by omega
  simp -implicitDefEqProofs (disch := omega) only [go_sem, seval, ↓reduceIte, ir35_b0_t3, t8, t11, m1, m2, b1, b2, b3, w1, w2, a1, a3, rc, rd, i4, i6]
  exact hbad (by omega) _
 have i5 : (r.of : Int) = (s.wo : Int) := by omega
 simp -implicitDefEqProofs (disch := omega) only [go_sem, seval, ↓reduceIte, ir35_b0_t3, t8, t11, m1, m2, b1, b2, b3, w1, w2, a1, a3, rc, rd, i4, i5, i6]
 exact hgood (by omega) _ (by rintro i (rfl | rfl | rfl | rfl | rfl | rfl) <;> simp -implicitDefEqProofs (disch := omega) only [go_sem, seval, ↓reduceIte])
set_option maxHeartbeats 8000000 in
theorem t2_ok {Q : Ex → Fr → Heap → Prop} {t : List It} {mks : List Nat} {y bm bw xb : Nat} {cm cw cl cx : Blk} {r : Rc} {s : LS} {H : Hd} {tr : Tr V} (hR : ∀ b, R b)
  (t1 : tr.get 1 = some (.ptr (some (xb, 0)))) (t8 : tr.get 8 = some (.ptr (some (bw, 0)))) (t11 : tr.get 11 = some (.ptr (some (bm, 0))))
  (x1 : g.get xb = some (.cells cx 32)) (x2 : cx.size = 1) (x3 : cx.get 0 = .ptr (some (lp, 0)))
  (l1 : g.get lp = some (.cells cl 47)) (l2 : cl.size = 13) (l3 : cl.get 3 = .int .u64 (H.ep : Int))
  (m1 : g.get bm = some (.cells cm 90)) (m2 : cm.size = 4) (b0 : cm.get 0 = .int .u64 (r.num : Int)) (b1 : cm.get 1 = .int .u64 (r.ep : Int)) (b2 : cm.get 2 = .int .u8 (r.pl : Int)) (b3 : cm.get 3 = .int .u8 (r.of : Int))
  (w1 : g.get bw = some (.cells cw 90)) (w2 : cw.size = 4) (a0 : cw.get 0 = .int .u64 (s.wn : Int)) (a1 : cw.get 1 = .int .u64 (s.we : Int)) (a2 : cw.get 2 = .int .u8 (s.wp : Int)) (a3 : cw.get 3 = .int .u8 (s.wo : Int))
  (hbad : ((r.pl = 0 ∧ (r.ep < s.we ∨ H.ep < r.ep)) ∨ (0 < r.pl ∧ (r.ep ≠ s.we ∨ r.of ≠ s.wo))) → ∀ tr', resume (⟨Try.prog, true⟩ : MP) R W (some y) Q t (.exit 2) ⟨⟨211, tr'⟩, mks⟩ g)
  (hgood : ¬ ((r.pl = 0 ∧ (r.ep < s.we ∨ H.ep < r.ep)) ∨ (0 < r.pl ∧ (r.ep ≠ s.we ∨ r.of ≠ s.wo))) → ∀ tr', (∀ i, i = 1 ∨ i = 8 ∨ i = 9 ∨ i = 10 ∨ i = 11 ∨ i = 12 → tr'.get i = tr.get i) → GO (⟨Try.prog, true⟩ : MP) R W (some y) Q t ⟨⟨211, tr'⟩, mks⟩ g) :
  GO (⟨Try.prog, true⟩ : MP) R W (some y) Q (.code ir35_b0_t2 :: t) ⟨⟨211, tr⟩, mks⟩ g := by
 have ra := hR xb
 have rb := hR lp
 have rc := hR bm
 have rd := hR bw
 by_cases h3 : r.pl = 0
 rotate_left
 ·have i3 : ¬ (r.pl : Int) = 0 := by omega
  simp -implicitDefEqProofs (disch := omega) only [go_sem, seval, ↓reduceIte, ir35_b0_t2, qE, t11, m1, m2, b2, rc, false_implies, implies_true]
  exact t3_ok hR (by simp -implicitDefEqProofs (disch := omega) only [go_sem, seval, ↓reduceIte, t1]) (by simp -implicitDefEqProofs (disch := omega) only [go_sem, seval, ↓reduceIte, t8]) (by simp -implicitDefEqProofs (disch := omega) only [go_sem, seval, ↓reduceIte, t11]) x1 x2 x3 l1 l2 l3 m1 m2 b0 b1 b2 b3 w1 w2 a0 a1 a2 a3 (fun h tr' => hbad (by omega) tr') fun h tr' h' => hgood (by omega) tr' fun i hi => (h' i hi).trans (by rcases hi with rfl | rfl | rfl | rfl | rfl | rfl <;> simp -implicitDefEqProofs (disch := omega) only [go_sem, seval, ↓reduceIte])
 have i3 : (r.pl : Int) = 0 := by omega
 by_cases h4 : r.ep < s.we
 ·have i4 : (r.ep : Int) < (s.we : Int) := by omega
  simp -implicitDefEqProofs (disch := omega) only [go_sem, seval, ↓reduceIte, ir35_b0_t2, qE, t8, t11, m1, m2, b1, b2, w1, w2, a1, rc, rd, false_implies, implies_true, i3, i4]
  exact hbad (by omega) _
 have i4 : ¬ (r.ep : Int) < (s.we : Int) := by omega
 by_cases h5 : H.ep < r.ep
 ·have i5 : (H.ep : Int) < (r.ep : Int) := by omega
  simp -implicitDefEqProofs (disch := omega) only [go_sem, seval, ↓reduceIte, ir35_b0_t2, t1, t8, t11, m1, m2, b1, b2, w1, w2, a1, l1, l2, l3, x1, x2, x3, ra, rb, rc, rd, implies_true, i3, i4, i5]
  exact hbad (by omega) _
 have i5 : ¬ (H.ep : Int) < (r.ep : Int) := by omega
 simp -implicitDefEqProofs (disch := omega) only [go_sem, seval, ↓reduceIte, ir35_b0_t2, t1, t8, t11, m1, m2, b1, b2, w1, w2, a1, l1, l2, l3, x1, x2, x3, ra, rb, rc, rd, implies_true, i3, i4, i5]
 exact t3_ok hR (by simp -implicitDefEqProofs (disch := omega) only [go_sem, seval, ↓reduceIte, t1]) (by simp -implicitDefEqProofs (disch := omega) only [go_sem, seval, ↓reduceIte, t8]) (by simp -implicitDefEqProofs (disch := omega) only [go_sem, seval, ↓reduceIte, t11]) x1 x2 x3 l1 l2 l3 m1 m2 b0 b1 b2 b3 w1 w2 a0 a1 a2 a3 (fun h tr' => hbad (by omega) tr') fun h tr' h' => hgood (by omega) tr' fun i hi => (h' i hi).trans (by rcases hi with rfl | rfl | rfl | rfl | rfl | rfl <;> simp -implicitDefEqProofs (disch := omega) only [go_sem, seval, ↓reduceIte])
set_option maxHeartbeats 8000000 in
theorem t1_ok {Q : Ex → Fr → Heap → Prop} {t : List It} {mks : List Nat} {y bm bw xb : Nat} {cm cw cl cx : Blk} {r : Rc} {s : LS} {H : Hd} {tr : Tr V} (hR : ∀ b, R b)
  (t1 : tr.get 1 = some (.ptr (some (xb, 0)))) (t8 : tr.get 8 = some (.ptr (some (bw, 0)))) (t11 : tr.get 11 = some (.ptr (some (bm, 0))))
  (x1 : g.get xb = some (.cells cx 32)) (x2 : cx.size = 1) (x3 : cx.get 0 = .ptr (some (lp, 0)))
  (l1 : g.get lp = some (.cells cl 47)) (l2 : cl.size = 13) (l3 : cl.get 3 = .int .u64 (H.ep : Int))
  (m1 : g.get bm = some (.cells cm 90)) (m2 : cm.size = 4) (b0 : cm.get 0 = .int .u64 (r.num : Int)) (b1 : cm.get 1 = .int .u64 (r.ep : Int)) (b2 : cm.get 2 = .int .u8 (r.pl : Int)) (b3 : cm.get 3 = .int .u8 (r.of : Int))
  (w1 : g.get bw = some (.cells cw 90)) (w2 : cw.size = 4) (a0 : cw.get 0 = .int .u64 (s.wn : Int)) (a1 : cw.get 1 = .int .u64 (s.we : Int)) (a2 : cw.get 2 = .int .u8 (s.wp : Int)) (a3 : cw.get 3 = .int .u8 (s.wo : Int))
  (hbad : badL H.ep s r → ∀ tr', resume (⟨Try.prog, true⟩ : MP) R W (some y) Q t (.exit 2) ⟨⟨211, tr'⟩, mks⟩ g)
  (hgood : ¬ badL H.ep s r → ∀ tr', (∀ i, i = 1 ∨ i = 8 ∨ i = 9 ∨ i = 10 ∨ i = 11 ∨ i = 12 → tr'.get i = tr.get i) → GO (⟨Try.prog, true⟩ : MP) R W (some y) Q t ⟨⟨211, tr'⟩, mks⟩ g) :
  GO (⟨Try.prog, true⟩ : MP) R W (some y) Q (.code ir35_b0_t1 :: t) ⟨⟨211, tr⟩, mks⟩ g := by
 have ra := hR xb
 have rb := hR lp
 have rc := hR bm
 have rd := hR bw
 by_cases h1 : r.num = s.wn
 rotate_left
 ·have i1 : ¬ (r.num : Int) = (s.wn : Int) := by omega
  simp -implicitDefEqProofs (disch := omega) only [go_sem, seval, ↓reduceIte, ir35_b0_t1, qE, t8, t11, m1, m2, b0, w1, w2, a0, rc, rd]
  exact hbad (.inl h1) _
 have i1 : (r.num : Int) = (s.wn : Int) := by omega
 by_cases h2 : r.pl = s.wp
 rotate_left
 ·have i2 : ¬ (r.pl : Int) = (s.wp : Int) := by omega
  simp -implicitDefEqProofs (disch := omega) only [go_sem, seval, ↓reduceIte, ir35_b0_t1, t8, t11, m1, m2, b0, b2, w1, w2, a0, a2, rc, rd, i1]
  exact hbad (.inr (.inl h2)) _
 have i2 : (r.pl : Int) = (s.wp : Int) := by omega
 simp -implicitDefEqProofs (disch := omega) only [go_sem, seval, ↓reduceIte, ir35_b0_t1, t8, t11, m1, m2, b0, b2, w1, w2, a0, a2, rc, rd, i1, i2]
 exact t2_ok hR (by simp -implicitDefEqProofs (disch := omega) only [go_sem, seval, ↓reduceIte, t1]) (by simp -implicitDefEqProofs (disch := omega) only [go_sem, seval, ↓reduceIte, t8]) (by simp -implicitDefEqProofs (disch := omega) only [go_sem, seval, ↓reduceIte, t11]) x1 x2 x3 l1 l2 l3 m1 m2 b0 b1 b2 b3 w1 w2 a0 a1 a2 a3 (fun h tr' => hbad (by unfold badL; omega) tr') fun h tr' h' => hgood (by unfold badL; omega) tr' fun i hi => (h' i hi).trans (by rcases hi with rfl | rfl | rfl | rfl | rfl | rfl <;> simp -implicitDefEqProofs (disch := omega) only [go_sem, seval, ↓reduceIte])
end Go.Proofs.Ytakgjjbmniilhaa
set_option maxRecDepth 100000
set_option linter.unusedVariables false
namespace Go.Proofs.Ytakgjjbmniilhaa
open Go Go.Vm
attribute [-go_sem] qQ
variable {h g : Heap} {R W M : Set'} {bd lp fr ct : Nat} {D : DS}
def LdF (g g' : Heap) (lp bw n0 : Nat) : Prop := g.n ≤ g'.n ∧ ∀ k, k < g.n → k ≠ lp → k ≠ bw → k ≠ bw + 1 → k ≠ bw + 2 → (k < n0 ∨ ∀ c, g.get k ≠ some (.cells c 5) ∧ g.get k ≠ some (.cells c 22)) → g'.get k = g.get k
theorem zI {c : Blk} {a n k : Nat} {v : V} (h : k < a ∨ a + n ≤ k) : (c.set k v).gets a n = c.gets a n := by
 refine List.ext_getElem? fun j => ?_
 by_cases hj : j < n
 ·rw [Blk.qM _ _ _ _ hj, Blk.qM _ _ _ _ hj, Blk.get_set, if_neg (by omega)]
 ·rw [List.getElem?_eq_none (by rw [Blk.qJ]; omega), List.getElem?_eq_none (by rw [Blk.qJ]; omega)]
theorem own_keep' {n0 : Nat} {h h' : Heap} {v : V} {l : List V} {e : TypeId} (ho : Own n0 h v l e) (hk : ∀ b c, h.get b = some (.cells c e) → n0 ≤ b → h'.get b = some (.cells c e)) : Own n0 h' v l e := by
 rcases ho with ⟨rfl, rfl | ⟨b, c, rfl, h1, hb, hr⟩⟩ | ⟨b, x, c, h0, rfl, h1, hb, hs⟩
 ·exact .inl ⟨rfl, .inl rfl⟩
 ·exact .inl ⟨rfl, .inr ⟨b, c, rfl, h1, hk _ _ hb h1, hr⟩⟩
 ·exact .inr ⟨b, x, c, h0, rfl, h1, hk _ _ hb h1, hs⟩
theorem LdF.trans {g1 g2 g3 : Heap} {lp bw n0 : Nat} (h1 : LdF g1 g2 lp bw n0) (h2 : LdF g2 g3 lp bw n0) : LdF g1 g3 lp bw n0 :=
 ⟨Nat.le_trans h1.1 h2.1, fun k k1 k2 k3 k4 k5 k6 => by
  have e := h1.2 k k1 k2 k3 k4 k5 k6
  rw [h2.2 k (Nat.lt_of_lt_of_le k1 h1.1) k2 k3 k4 k5 (k6.imp id fun h c => by rw [e]; exact h c), e]⟩
def midL (s : LS) (r : Rc) : LS := ⟨r.num, r.ep, r.pl + 1, r.of, s.rc ++ r.dat, s.cn + 1, s.rs, s.at', s.nx⟩
theorem good_mid {s : LS} {r : Rc} (h : ¬ r.pl + 1 = r.of) : yB s r = midL s r := by unfold yB; rw [if_neg h]; rfl
theorem good_end {s : LS} {r : Rc} (h : r.pl + 1 = r.of) : yB s r = ⟨s.nx + 1, r.ep, 0, 0, [], 0, s.rs ++ [s.rc ++ r.dat], s.at' + (s.cn + 1), s.nx + 1⟩ := by unfold yB; rw [if_pos h]
set_option maxHeartbeats 8000000 in
theorem f2_ok {Q : Ex → Fr → Heap → Prop} {t : List It} {mks : List Nat} {y bm bw xb n0 ep : Nat} {cm cx : Blk} {s : LS} {H : Hd} {tr : Tr V} {v10 v11 : V} {c cw cr cn : Blk} {rv v : V} {vs : List V} (hR : ∀ b, R b) (hW : ∀ k, n0 ≤ k → W k) (hWl : W lp) (hWb : W bw ∧ W (bw + 1) ∧ W (bw + 2))
  (hlo : lp < bw ∧ xb < bw ∧ xb ≠ lp ∧ bw + 2 < n0 ∧ n0 ≤ bm ∧ n0 ≤ g.n)
  (t1 : tr.get 1 = some (.ptr (some (xb, 0)))) (t8 : tr.get 8 = some (.ptr (some (bw, 0)))) (t9 : tr.get 9 = some (.ptr (some (bw + 1, 0)))) (t10 : tr.get 10 = some (.ptr (some (bw + 2, 0)))) (t11 : tr.get 11 = some (.ptr (some (bm, 0))))
  (x1 : g.get xb = some (.cells cx 32)) (x2 : cx.size = 1) (x3 : cx.get 0 = .ptr (some (lp, 0)))
  (m1 : g.get bm = some (.cells cm 90)) (m2 : cm.size = 4) (b1 : cm.get 1 = .int .u64 (ep : Int))
  (hl : LdR g lp bd fr ct bw n0 v10 v11 H s c cw cr cn rv v vs)
  (hvl : vs.length ≤ 10000) (hn1 : s.nx + 1 < 9223372036854775808) (hn2 : s.cn ≤ 10001 ∧ s.at' ≤ 10000)
  (hk : ∀ tr' g', LdM g' lp bd fr ct bw n0 v10 v11 H ⟨s.nx + 1, ep, 0, 0, [], 0, s.rs ++ [s.rc], s.at' + s.cn, s.nx + 1⟩ → LdF g g' lp bw n0 → GO (⟨Try.prog, true⟩ : MP) R W (some y) Q t ⟨⟨211, tr'⟩, mks⟩ g') :
  GO (⟨Try.prog, true⟩ : MP) R W (some y) Q (.code ir35_b0_f2 :: t) ⟨⟨211, tr⟩, mks⟩ g := by
 obtain ⟨l1, l2, l3, k0, k1, k2, k3, k8, k9, k10, k11, k12, w1, w2, w3, a0, a1, a2, a3, r1, r2, r3, r4, rd, n1, n2, n3, n4, vd, vl, ve⟩ := hl
 obtain ⟨hlb, hxb, hxl, hbn, hbm, hng⟩ := hlo
 obtain ⟨W1, W2, W3⟩ := hWb
 have ra := hR xb
 have rb := hR lp
 have rc := hR bm
 have r5 := hR bw
 have r6 := hR (bw + 1)
 have r7 := hR (bw + 2)
 have hvo := rd.lr.one
 have hvc := rd.lr.cells
 have hro := vd.lr.one
 obtain ⟨v2, G, rr, ww, hap, ho2, nG, lG, wG, kG, tG⟩ := jK (bytes := 24) (h := g.push (.cells (Blk.of [v]) 22)) (x := .slice (some (g.n, 0)) 1 1 true) (vd.old fun b hb => by rw [qC (by omega)]) (by rw [Heap.qG]; omega) rfl (yO (qH rfl _)) (by simp only [allOne, hvo]) (by simp only [List.length_cons, List.length_nil]; omega) (by simp only [List.length_cons, List.length_nil]; omega)
 have h2o := ho2.lr.one
 have h2c := ho2.lr.cells
 have WW : ∀ b ∈ ww, W b := fun b hb => hW b (wG b hb)
 have nel : ∀ {k c e}, g.get k = some (.cells c e) → (k < n0 ∨ e ≠ 22) → G.get k = some (.cells c e) := fun {k c e} h1 h2 => by
  have hlt := Heap.lt_of_get h1
  have h3 : (g.push (.cells (Blk.of [v]) 22)).get k = some (.cells c e) := by rw [qC (by omega)]; exact h1
  rcases h2 with h2 | h2
  ·rw [lG k h2, h3]
  ·rw [kG k (by rw [Heap.qG]; omega) (fun h4 => ?_), h3]
   obtain ⟨c', h5⟩ := tG k h4
   rw [h3] at h5; cases h5; exact h2 rfl
 have nG' : g.n + 1 ≤ G.n := nG
 have L1 := nel l1 (.inl (by omega))
 have X1 := nel x1 (.inl (by omega))
 have M1 := nel m1 (.inr (by decide))
 have B1 := nel w1 (.inl (by omega))
 have B2 := nel r1 (.inl (by omega))
 have B3 := nel n1 (.inl (by omega))
 have e1 : (s.at' : Int) + (s.cn : Int) = ((s.at' + s.cn : Nat) : Int) := by omega
 have e2 : (s.nx : Int) + 1 = ((s.nx + 1 : Nat) : Int) := by omega
 have e3 : IntKind.u64.wrap ((s.nx + 1 : Nat) : Int) = ((s.nx + 1 : Nat) : Int) := wrap64 (by omega)
 simp -implicitDefEqProofs (disch := first | omega | (simp -implicitDefEqProofs only [szs, ne_eq] <;> omega) | fail) only [go_sem, seval, ↓reduceIte, ir35_b0_f2, qE, t1, t8, t9, t10, t11, l1, l2, l3, k8, k9, k12, x1, x2, x3, r1, r2, r3, r4, ra, rb, r6, W1, W2, W3, hWl, n2, n3, n4, r7, rc, w2, w3, m2, b1, qU ap_45, hap, ↓hvc, ↓h2o, ↓h2c, L1, X1, M1, B1, B2, B3, e1, e2, e3, implies_true]
 have gl := Heap.lt_of_get L1
 have gl1 := Heap.lt_of_get B1
 have gl2 := Heap.lt_of_get B2
 have gl3 := Heap.lt_of_get B3
 have hk2 : ∀ tr' Z, Z.n = G.n → Z.get lp = some (.cells (((c.set 12 v2).set 9 (.int .i64 ((s.at' + s.cn : Nat) : Int))).set 8 (.int .u64 ((s.nx + 1 : Nat) : Int))) 47) →
   Z.get bw = some (.cells ((((cw.set 0 (.int .u64 ((s.nx + 1 : Nat) : Int))).set 1 (.int .u64 (ep : Int))).set 2 (.int .u8 0)).set 3 (.int .u8 0)) 90) →
   Z.get (bw + 1) = some (.cells (cr.set 0 (.slice none 0 0 true)) 22) → Z.get (bw + 2) = some (.cells (cn.set 0 (.int .i64 0)) 3) → (∀ k, k ≠ lp → k ≠ bw → k ≠ bw + 1 → k ≠ bw + 2 → Z.get k = G.get k) → GO (⟨Try.prog, true⟩ : MP) R W (some y) Q t ⟨⟨211, tr'⟩, mks⟩ Z := by
  intro tr' Z nZ z1 z2 z3 z4 kZ
  have kc : ∀ b c' e, (e = 22 → n0 ≤ b) → e = 22 ∨ e = 5 → G.get b = some (.cells c' e) → Z.get b = some (.cells c' e) := fun b c' e h1 h2 h3 => by
   rw [kZ b (fun h => ?_) (fun h => ?_) (fun h => ?_) (fun h => ?_)]
   ·exact h3
   ·rw [h, L1] at h3; cases h3; rcases h2 with h2 | h2 <;> cases h2
   ·rw [h, B1] at h3; cases h3; rcases h2 with h2 | h2 <;> cases h2
   ·rw [h, B2] at h3; cases h3; have := h1 rfl; omega
   ·rw [h, B3] at h3; cases h3; rcases h2 with h2 | h2 <;> cases h2
  refine hk tr' Z ⟨_, _, _, _, v2, .slice none 0 0 true, vs ++ [v], z1, by simp only [Blk.size_set, l2], by simp only [Blk.qY, l3], ?_, ?_, ?_, ?_, ?_, ?_, ?_, ?_, ?_, z2, by simp only [Blk.size_set, w2], by simp only [Blk.qY, w3], ?_, ?_, ?_, ?_, z3, by simp only [Blk.size_set, r2], by simp only [Blk.qY, r3], ?_, Own.nil _ _ _, z4, by simp only [Blk.size_set, n2], by simp only [Blk.qY, n3], ?_, ?_, ?_, ?_⟩ ⟨by omega, ?_⟩
  ·simp -implicitDefEqProofs (disch := first | omega | (simp -implicitDefEqProofs only [szs, ne_eq] <;> omega) | fail) only [go_sem, seval, k0]
  ·simp -implicitDefEqProofs (disch := first | omega | (simp -implicitDefEqProofs only [szs, ne_eq] <;> omega) | fail) only [go_sem, seval, k1]
  ·simp -implicitDefEqProofs (disch := first | omega | (simp -implicitDefEqProofs only [szs, ne_eq] <;> omega) | fail) only [go_sem, seval, k2]
  ·rw [zI (by omega), zI (by omega), zI (by omega), k3]
  ·simp -implicitDefEqProofs (disch := first | omega | (simp -implicitDefEqProofs only [szs, ne_eq] <;> omega) | fail) only [go_sem, seval]
  ·simp -implicitDefEqProofs (disch := first | omega | (simp -implicitDefEqProofs only [szs, ne_eq] <;> omega) | fail) only [go_sem, seval]
  ·simp -implicitDefEqProofs (disch := first | omega | (simp -implicitDefEqProofs only [szs, ne_eq] <;> omega) | fail) only [go_sem, seval, k10]
  ·simp -implicitDefEqProofs (disch := first | omega | (simp -implicitDefEqProofs only [szs, ne_eq] <;> omega) | fail) only [go_sem, seval, k11]
  ·simp -implicitDefEqProofs (disch := first | omega | (simp -implicitDefEqProofs only [szs, ne_eq] <;> omega) | fail) only [go_sem, seval]
  ·simp -implicitDefEqProofs (disch := first | omega | (simp -implicitDefEqProofs only [szs, ne_eq] <;> omega) | fail) only [go_sem, seval]
  ·simp -implicitDefEqProofs (disch := first | omega | (simp -implicitDefEqProofs only [szs, ne_eq] <;> omega) | fail) only [go_sem, seval]
  ·simp -implicitDefEqProofs (disch := first | omega | (simp -implicitDefEqProofs only [szs, ne_eq] <;> omega) | fail) only [go_sem]; rfl
  ·simp -implicitDefEqProofs (disch := first | omega | (simp -implicitDefEqProofs only [szs, ne_eq] <;> omega) | fail) only [go_sem]; rfl
  ·simp -implicitDefEqProofs (disch := first | omega | (simp -implicitDefEqProofs only [szs, ne_eq] <;> omega) | fail) only [go_sem, seval]
  ·simp -implicitDefEqProofs (disch := first | omega | (simp -implicitDefEqProofs only [szs, ne_eq] <;> omega) | fail) only [go_sem]; rfl
  ·exact own_keep' ho2 fun b c' hb hn => kc b c' 22 (fun _ => hn) (.inl rfl) hb
  ·simp [vl]
  ·intro i l hi
   have hold : ∀ {v' : V} {l : List V} {S' : Set'}, LR g S' v' l → (∀ b, S' b → n0 ≤ b ∧ ∃ c, g.get b = some (.cells c 5)) → LR Z (fun b => n0 ≤ b ∧ b ≠ sblk (V.slice none 0 0 true) ∧ ∃ c, Z.get b = some (.cells c 5)) v' l := fun hv hS => by
    have hz : ∀ b, (n0 ≤ b ∧ ∃ c, g.get b = some (.cells c 5)) → Z.get b = g.get b := fun b ⟨_, c', hb⟩ => (kc b c' 5 (fun h => by cases h) (.inr rfl) (nel hb (.inr (by decide)))).trans hb.symm
    refine (hv.same fun b hb _ => hz b (hS b hb)).mono fun b _ hb => ⟨(hS b hb).1, by show b ≠ 0; have := (hS b hb).1; omega, ?_⟩
    obtain ⟨h1, c', h2⟩ := hS b hb
    exact ⟨c', (hz b ⟨h1, c', h2⟩).trans h2⟩
   by_cases hi2 : i < s.rs.length
   ·rw [List.getElem?_append_left hi2] at hi
    have e : (vs ++ [v]).getD i qE = vs.getD i qE := by
     rw [List.getD_eq_getElem?_getD, List.getD_eq_getElem?_getD, List.getElem?_append_left (by omega)]
    rw [e]
    exact hold (ve i l hi) fun b hb => ⟨hb.1, hb.2.2⟩
   ·rw [List.getElem?_append_right (by omega)] at hi
    have hi3 : i = s.rs.length := by
     have := (List.getElem?_eq_some_iff.1 hi).1
     simp at this; omega
    subst hi3
    rw [Nat.sub_self] at hi
    cases hi
    have e : (vs ++ [v]).getD s.rs.length qE = v := by
     rw [List.getD_eq_getElem?_getD, List.getElem?_append_right (by omega), vl, Nat.sub_self]; rfl
    rw [e]
    exact hold (Own.lrf rd) fun b hb => hb
  ·intro k hk1 hk2 hk3 hk4 hk5 hk6
   rw [kZ k hk2 hk3 hk4 hk5]
   rcases hk6 with h6 | h6
   ·rw [lG k h6, qC (by omega)]
   ·rw [kG k (by rw [Heap.qG]; omega) fun h7 => ?_, qC (by omega)]
    obtain ⟨c', h8⟩ := tG k h7
    rw [qC (by omega)] at h8
    exact (h6 c').2 h8
 refine ⟨by (try simp only [List.not_mem_nil, or_false, false_or, and_false, false_implies, implies_true, not_false_eq_true, List.mem_cons, and_true, true_and]; try and_intros; all_goals (try trivial); all_goals (intro b hb; first | omega | (intro hc; first | omega | (have := wG _ hb.2; omega) | (rcases hb with hb | hb <;> first | omega | (have := wG _ hb.2; omega))))), ⟨fun b _ _ => hR b, fun b _ hb => WW b hb⟩, by (try simp only [List.not_mem_nil, or_false, false_or, and_false, implies_true, not_false_eq_true, List.mem_cons, and_true]; try and_intros; all_goals (try trivial); all_goals (intro b hb; first | omega | (intro hc; first | omega | (rcases hb with hb | hb <;> first | omega)))), hk2 _ _ (by simp only [Heap.n_set]) ?_ ?_ ?_ ?_ ?_⟩
 ·rw [qB (by simp; omega) (by omega), qB (by simp; omega) (by omega), qB (by simp; omega) (by omega)]
  exact qF (by simp; omega) rfl _
 ·rw [qB (by simp; omega) (by omega), qB (by simp; omega) (by omega)]
  exact qF (by simp; omega) rfl _
 ·rw [qB (by simp; omega) (by omega)]
  exact qF (by simp; omega) rfl _
 ·exact qF (by simp; omega) rfl _
 ·intro k h1 h2 h3 h4
  rw [qB (by simp; omega) h4, qB (by simp; omega) h3, qB (by simp; omega) h2, qB (by simp; omega) h1, qB (by simp; omega) h1, qB (by omega) h1]
set_option maxHeartbeats 8000000 in
theorem f1_ok {Q : Ex → Fr → Heap → Prop} {t : List It} {mks : List Nat} {y bm bw xb n0 : Nat} {cm cx : Blk} {r : Rc} {s : LS} {H : Hd} {tr : Tr V} {v10 v11 dv : V} {S : Set'} {c cw cr cn : Blk} {rv v : V} {vs : List V} (hR : ∀ b, R b) (hW : ∀ k, n0 ≤ k → W k) (hWl : W lp) (hWb : W bw ∧ W (bw + 1) ∧ W (bw + 2))
  (hlo : lp < bw ∧ xb < bw ∧ xb ≠ lp ∧ bw + 2 < n0 ∧ n0 ≤ bm ∧ n0 ≤ g.n)
  (t1 : tr.get 1 = some (.ptr (some (xb, 0)))) (t8 : tr.get 8 = some (.ptr (some (bw, 0)))) (t9 : tr.get 9 = some (.ptr (some (bw + 1, 0)))) (t10 : tr.get 10 = some (.ptr (some (bw + 2, 0)))) (t11 : tr.get 11 = some (.ptr (some (bm, 0)))) (t12 : tr.get 12 = some dv)
  (x1 : g.get xb = some (.cells cx 32)) (x2 : cx.size = 1) (x3 : cx.get 0 = .ptr (some (lp, 0)))
  (m1 : g.get bm = some (.cells cm 90)) (m2 : cm.size = 4) (b0 : cm.get 0 = .int .u64 (r.num : Int)) (b1 : cm.get 1 = .int .u64 (r.ep : Int)) (b2 : cm.get 2 = .int .u8 (r.pl : Int)) (b3 : cm.get 3 = .int .u8 (r.of : Int))
  (hd : LR g S dv r.dat) (hdb : Byt r.dat) (hl : LdR g lp bd fr ct bw n0 v10 v11 H s c cw cr cn rv v vs)
  (hof : r.pl < r.of ∧ r.of ≤ 64) (hdl : r.dat.length ≤ 108) (hrl : s.rc.length ≤ 1000000) (hrb : Byt s.rc) (hvl : vs.length ≤ 10000) (hn1 : s.nx + 1 < 9223372036854775808) (hn2 : s.cn ≤ 10000 ∧ s.at' ≤ 10000)
  (hk : ∀ tr' g', LdM g' lp bd fr ct bw n0 v10 v11 H (yB s r) → LdF g g' lp bw n0 → GO (⟨Try.prog, true⟩ : MP) R W (some y) Q t ⟨⟨211, tr'⟩, mks⟩ g') :
  GO (⟨Try.prog, true⟩ : MP) R W (some y) Q (.code ir35_b0_f1 :: t) ⟨⟨211, tr⟩, mks⟩ g := by
 obtain ⟨l1, l2, l3, k0, k1, k2, k3, k8, k9, k10, k11, k12, w1, w2, w3, a0, a1, a2, a3, r1, r2, r3, r4, rd, n1, n2, n3, n4, vd, vl, ve⟩ := hl
 obtain ⟨hlb, hxb, hxl, hbn, hbm, hng⟩ := hlo
 obtain ⟨W1, W2, W3⟩ := hWb
 have ra := hR xb
 have rb := hR lp
 have rc := hR bm
 have r5 := hR bw
 have r6 := hR (bw + 1)
 have r7 := hR (bw + 2)
 obtain ⟨q1, rs, q2⟩ := first_lr' hd
 obtain ⟨v2, G, rr, ww, hap, ho2, nG, lG, wG, kG, tG⟩ := jK (bytes := 1) rd hng q1 q2 hdb.allOne (by omega) (by omega)
 have hsb := appE_blk hap
 have hww := appE_w hap
 simp only at hsb hww
 have hvo := ho2.lr.one
 have hvc := ho2.lr.cells
 have ho1 := hd.one
 have hvv := rd.lr.one
 have WW : ∀ b ∈ ww, W b := fun b hb => hW b (wG b hb)
 have nel : ∀ {k c e}, g.get k = some (.cells c e) → (k < n0 ∨ e ≠ 5) → G.get k = some (.cells c e) := fun {k c e} h1 h2 => by
  rcases h2 with h2 | h2
  ·rw [lG k h2, h1]
  ·rw [kG k (Heap.lt_of_get h1) (fun h3 => ?_), h1]
   obtain ⟨c', h4⟩ := tG k h3
   rw [h1] at h4; cases h4; exact h2 rfl
 have L1 := nel l1 (.inl (by omega))
 have X1 := nel x1 (.inl (by omega))
 have M1 := nel m1 (.inr (by decide))
 have B1 := nel w1 (.inl (by omega))
 have B2 := nel r1 (.inl (by omega))
 have B3 := nel n1 (.inl (by omega))
 have e1 : (s.cn : Int) + 1 = ((s.cn + 1 : Nat) : Int) := by omega
 have e2 : (r.pl : Int) + 1 = ((r.pl + 1 : Nat) : Int) := by omega
 have e3 : IntKind.u8.wrap ((r.pl + 1 : Nat) : Int) = ((r.pl + 1 : Nat) : Int) := by rw [wrap8, Nat.mod_eq_of_lt (by omega)]
 have q3 : allB R rr := qO fun b _ => hR b
 have q4 : allB W ww := qO WW
 have gl := Heap.lt_of_get B1
 have gl2 := Heap.lt_of_get B2
 have gl3 := Heap.lt_of_get B3
 have key : ∀ X, X.n = G.n → X.get bw = some (.cells ((((cw.set 0 (.int .u64 (r.num : Int))).set 1 (.int .u64 (r.ep : Int))).set 2 (.int .u8 ((r.pl + 1 : Nat) : Int))).set 3 (.int .u8 (r.of : Int))) 90) → X.get (bw + 1) = some (.cells (cr.set 0 v2) 22) → X.get (bw + 2) = some (.cells (cn.set 0 (.int .i64 ((s.cn + 1 : Nat) : Int))) 3) → (∀ k, k ≠ bw → k ≠ bw + 1 → k ≠ bw + 2 → X.get k = G.get k) → LdF g X lp bw n0 ∧ LdR X lp bd fr ct bw n0 v10 v11 H (midL s r) c ((((cw.set 0 (.int .u64 (r.num : Int))).set 1 (.int .u64 (r.ep : Int))).set 2 (.int .u8 ((r.pl + 1 : Nat) : Int))).set 3 (.int .u8 (r.of : Int))) (cr.set 0 v2) (cn.set 0 (.int .i64 ((s.cn + 1 : Nat) : Int))) rv v2 vs := by
  intro X nX x1 x2 x3 kX
  have kc : ∀ b c' e, (e = 22 → n0 ≤ b) → e = 22 ∨ e = 5 → G.get b = some (.cells c' e) → X.get b = some (.cells c' e) := fun b c' e h1 h2 h3 => by
   rw [kX b (fun h => ?_) (fun h => ?_) (fun h => ?_)]
   ·exact h3
   ·rw [h, B1] at h3; cases h3; rcases h2 with h2 | h2 <;> cases h2
   ·rw [h, B2] at h3; cases h3; have := h1 rfl; omega
   ·rw [h, B3] at h3; cases h3; rcases h2 with h2 | h2 <;> cases h2
  refine ⟨⟨by omega, fun k hk1 hk2 hk3 hk4 hk5 hk6 => ?_⟩, (kX lp (by omega) (by omega) (by omega)).trans L1, l2, l3, k0, k1, k2, k3, k8, k9, k10, k11, k12, x1, by simp only [Blk.size_set, w2], by simp only [Blk.qY, w3], ?_, ?_, ?_, ?_, x2, by simp only [Blk.size_set, r2], by simp only [Blk.qY, r3], ?_, own_keep' ho2 fun b c' hb hn => kc b c' 5 (fun h => by cases h) (.inr rfl) hb, x3, by simp only [Blk.size_set, n2], by simp only [Blk.qY, n3], ?_, own_keep' vd fun b c' hb hn => kc b c' 22 (fun _ => hn) (.inl rfl) (nel hb (.inr (by decide))), vl, fun i l hi => ?_⟩
  ·rw [kX k hk3 hk4 hk5]
   rcases hk6 with h6 | h6
   ·exact lG k h6
   ·exact kG k hk1 fun h7 => by obtain ⟨c', h8⟩ := tG k h7; exact (h6 c').1 h8
  ·show _ = V.int .u64 (r.num : Int); simp -implicitDefEqProofs (disch := first | omega | (simp -implicitDefEqProofs only [szs, ne_eq] <;> omega) | fail) only [go_sem, seval]
  ·show _ = V.int .u64 (r.ep : Int); simp -implicitDefEqProofs (disch := first | omega | (simp -implicitDefEqProofs only [szs, ne_eq] <;> omega) | fail) only [go_sem, seval]
  ·show _ = V.int .u8 ((r.pl + 1 : Nat) : Int); simp -implicitDefEqProofs (disch := first | omega | (simp -implicitDefEqProofs only [szs, ne_eq] <;> omega) | fail) only [go_sem, seval]
  ·show _ = V.int .u8 (r.of : Int); simp -implicitDefEqProofs (disch := first | omega | (simp -implicitDefEqProofs only [szs, ne_eq] <;> omega) | fail) only [go_sem, seval]
  ·simp -implicitDefEqProofs (disch := first | omega | (simp -implicitDefEqProofs only [szs, ne_eq] <;> omega) | fail) only [go_sem, seval]
  ·show _ = V.int .i64 ((s.cn + 1 : Nat) : Int); simp -implicitDefEqProofs (disch := first | omega | (simp -implicitDefEqProofs only [szs, ne_eq] <;> omega) | fail) only [go_sem, seval]
  ·have hz : ∀ b, (n0 ≤ b ∧ b ≠ sblk v ∧ ∃ c, g.get b = some (.cells c 5)) → X.get b = g.get b := fun b ⟨_, h2, c', hb⟩ => by
    have h3 : G.get b = some (.cells c' 5) := by rw [kG b (Heap.lt_of_get hb) fun h => h2 (hww b h)]; exact hb
    rw [kc b c' 5 (fun h => by cases h) (.inr rfl) h3, hb]
   refine ((ve i l hi).same fun b hb _ => hz b hb).mono fun b _ hb => ⟨hb.1, ?_, ?_⟩
   ·obtain ⟨_, h2, c', h3⟩ := hb
    have := Heap.lt_of_get h3
    rcases hsb with h4 | h4
    ·rw [h4]; exact h2
    ·rw [h4]; omega
   ·obtain ⟨c', h3⟩ := hb.2.2
    exact ⟨c', (hz b hb).trans h3⟩
 have hgl : ∀ o o' o'', (((G.set (bw + 1) o).set (bw + 2) o').set bw o'').n = G.n := fun _ _ _ => by simp only [Heap.n_set]
 have hx0 : ∀ o o' o'', (((G.set (bw + 1) o).set (bw + 2) o').set bw o'').get bw = some o'' := fun _ _ _ => qF (by simp only [Heap.n_set]; omega) rfl _
 have hx1 : ∀ o o' o'', (((G.set (bw + 1) o).set (bw + 2) o').set bw o'').get (bw + 1) = some o := fun _ _ _ => by rw [qB (by simp only [Heap.n_set]; omega) (by omega), qB (by simp only [Heap.n_set]; omega) (by omega)]; exact qF (by omega) rfl _
 have hx2 : ∀ o o' o'', (((G.set (bw + 1) o).set (bw + 2) o').set bw o'').get (bw + 2) = some o' := fun _ _ _ => by rw [qB (by simp only [Heap.n_set]; omega) (by omega)]; exact qF (by simp only [Heap.n_set]; omega) rfl _
 have hx3 : ∀ o o' o'' k, k ≠ bw → k ≠ bw + 1 → k ≠ bw + 2 → (((G.set (bw + 1) o).set (bw + 2) o').set bw o'').get k = G.get k := fun _ _ _ k h1 h2 h3 => by rw [qB (by simp only [Heap.n_set]; omega) h1, qB (by simp only [Heap.n_set]; omega) h3, qB (by omega) h2]
 by_cases hfin : r.pl + 1 = r.of
 ·have i1 : ((r.pl + 1 : Nat) : Int) = (r.of : Int) := by omega
  have i2 : (((r.pl + 1 : Nat) : Int) == (r.of : Int)) = true := beq_iff_eq.2 i1
  simp -implicitDefEqProofs (disch := first | omega | (simp -implicitDefEqProofs only [szs, ne_eq] <;> omega) | fail) only [go_sem, seval, ↓reduceIte, ir35_b0_f1, qE, t8, t9, t10, t11, t12, r1, r2, r3, r4, r6, W1, W2, W3, n2, n3, n4, r7, rc, r5, w2, w3, m2, b0, b1, b2, b3, qU jO, hap, ↓hvo, ↓hvc, M1, B1, B2, B3, e1, e2, e3, q3, q4, i2]
  obtain ⟨hF, hM⟩ := key _ (hgl _ _ _) (hx0 _ _ _) (hx1 _ _ _) (hx2 _ _ _) (hx3 _ _ _)
  refine f2_ok (ep := r.ep) hR hW hWl ⟨W1, W2, W3⟩ ⟨hlb, hxb, hxl, hbn, hbm, by rw [hgl]; omega⟩ (by simp -implicitDefEqProofs (disch := first | omega | (simp -implicitDefEqProofs only [szs, ne_eq] <;> omega) | fail) only [go_sem, seval, ↓reduceIte, t1]) (by simp -implicitDefEqProofs (disch := first | omega | (simp -implicitDefEqProofs only [szs, ne_eq] <;> omega) | fail) only [go_sem, seval, ↓reduceIte, t8]) (by simp -implicitDefEqProofs (disch := first | omega | (simp -implicitDefEqProofs only [szs, ne_eq] <;> omega) | fail) only [go_sem, seval, ↓reduceIte, t9]) (by simp -implicitDefEqProofs (disch := first | omega | (simp -implicitDefEqProofs only [szs, ne_eq] <;> omega) | fail) only [go_sem, seval, ↓reduceIte, t10]) (by simp -implicitDefEqProofs (disch := first | omega | (simp -implicitDefEqProofs only [szs, ne_eq] <;> omega) | fail) only [go_sem, seval, ↓reduceIte, t11]) ((hx3 _ _ _ xb (by omega) (by omega) (by omega)).trans X1) x2 x3 ((hx3 _ _ _ bm (by omega) (by omega) (by omega)).trans M1) m2 b1 hM hvl hn1 ⟨by show s.cn + 1 ≤ _; omega, hn2.2⟩ fun tr' g' h1 h2 => hk tr' g' ?_ (hF.trans h2)
  rw [good_end hfin]; exact h1
 ·have i1 : ¬ ((r.pl + 1 : Nat) : Int) = (r.of : Int) := by omega
  have i2 : (((r.pl + 1 : Nat) : Int) == (r.of : Int)) = false := beq_eq_false_iff_ne.2 i1
  simp -implicitDefEqProofs (disch := first | omega | (simp -implicitDefEqProofs only [szs, ne_eq] <;> omega) | fail) only [go_sem, seval, ↓reduceIte, ir35_b0_f1, qE, t8, t9, t10, t11, t12, r1, r2, r3, r4, r6, W1, W2, W3, n2, n3, n4, r7, rc, r5, w2, w3, m2, b0, b1, b2, b3, qU jO, hap, ↓hvo, ↓hvc, M1, B1, B2, B3, e1, e2, e3, q3, q4, i2]
  obtain ⟨hF, hM⟩ := key _ (hgl _ _ _) (hx0 _ _ _) (hx1 _ _ _) (hx2 _ _ _) (hx3 _ _ _)
  refine hk _ _ ?_ hF
  rw [good_mid hfin]
  exact ⟨_, _, _, _, _, _, _, hM⟩
end Go.Proofs.Ytakgjjbmniilhaa
