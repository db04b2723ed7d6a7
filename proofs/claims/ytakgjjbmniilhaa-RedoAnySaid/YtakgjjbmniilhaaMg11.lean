/- The document's log: heads taken. -/
import Derived.Test.YtakgjjbmniilhaaMg10
set_option linter.unusedVariables false
set_option maxRecDepth 100000
set_option linter.unusedVariables false
namespace Go.Proofs.Ytakgjjbmniilhaa
open Go Go.Vm
attribute [-go_sem] qQ
variable {h g : Heap} {R W M N : Set'}
noncomputable def ir76_e1 : LC := (pk (fun l0 => atP (ir0 Try.f76 [l0] []) [1, 1, 1, 1, 1]) _) ir76_l0
noncomputable def ir76_e0 : LC := (pk (fun l0 p0 => jX (atP (ir0 Try.f76 [l0] []) [1, 1, 1, 1]) [1] p0) _) ir76_l0 ir76_e1
noncomputable def ir76_c : LC := (pk (fun l0 p0 => jX (ir0 Try.f76 [l0] []) [1, 1, 1, 1] p0) _) ir76_l0 ir76_e0
theorem ir76_c_eq : ir76 = ir76_c := rfl
theorem cvSD {P : Program} {tm : Tm} {h : Heap} {K : V → Heap → Set' → Set' → Prop} (x : Operand) : qV P tm h (.convert 22 9 x) K = onO (evV tm x) fun a => onO (kS P 22 9 a h) fun r => K r.1 h (fun x => x ∈ r.2) (fun x => x ∈ ([] : List Nat)) := by
 apply yX; decide
theorem jI {S : Set'} {v : V} {l : List V} (hv : LR h S v l) (hl : Byt l) : ∃ rs, kS Try.prog 22 9 v h = some (.str (jY l), rs) ∧ ∀ b ∈ rs, S b ∧ b < h.n := by
 rcases hv with ⟨rfl, rfl | ⟨a, rfl⟩⟩ | ⟨b, o, cap, ex, c, ce, rfl, hS, hb, hs, hg⟩
 ·exact ⟨[], by simp [kS, Try.underlying22, Try.underlying9, Try.underlying5]; rfl, fun b h => by cases h⟩
 ·exact ⟨[], by simp [kS, Try.underlying22, Try.underlying9, Try.underlying5]; rfl, fun b h => by cases h⟩
 ·exact ⟨_, conv_str hb hs hg hl, fun x hx => by rw [List.mem_singleton.1 hx]; exact ⟨hS, Heap.lt_of_get hb⟩⟩
theorem ap_162 : apT Try.prog 162 162 = some (42, 1, 8) := by kernel_rfl
set_option maxHeartbeats 8000000 in
theorem rtake_e1 {Q : Ex → Fr → Heap → Prop} {t : List It} {S : Set'} {g : Heap} {v : V} {lb zb hb' m : Nat} {x : Bool} {H : Hd} {l : List V} {tr : Tr V} {c cz ch : Blk} (hL : H.Lt) (hv : LR g S v l) (hSz : ∀ b, S b → b ≠ zb) (hb : Byt l) (hR : ∀ b, R b) (hWz : W zb)
  (c1 : g.get lb = some (.cells c 42)) (c2 : c.size = 6) (g0 : c.get 0 = .int .u64 (m : Int))
  (z1 : g.get zb = some (.cells cz 107)) (z2 : cz.size = 5) (z3 : cz.ro = false)
  (e1 : g.get hb' = some (.cells ch 107)) (e2 : ch.size = 5) (e3 : ch.gets 0 5 = H.v) (hz : zb ≠ hb')
  (t0 : tr.get 0 = some v) (t2 : tr.get 2 = some (.ptr (some (zb, 0)))) (t5 : tr.get 5 = some (.slice (some (lb, 0)) 6 6 x)) (t9 : tr.get 9 = some (.ptr (some (hb', 0))))
  (hk : ∀ tr g', tr.get 2 = some (.ptr (some (zb, 0))) → tr.get 3 = some (.bool (Hd.ok H m l)) → g.n ≤ g'.n → (∀ k, k < g.n → k ≠ zb → g'.get k = g.get k) → (∃ c, g'.get zb = some (.cells c 107) ∧ c.size = 5 ∧ c.gets 0 5 = H.v) → Q .ret ⟨⟨75, tr⟩, []⟩ g') :
  GO (Try.prog : MP) R W none Q (It.code ir76_e1 :: t) ⟨⟨75, tr⟩, []⟩ g := by
 have x0 : ch.get 0 = .int .u64 (H.ep : Int) := by have := Blk.qM ch 5 0 0 (by omega); rw [e3] at this; exact (Option.some.inj this).symm
 have x1 : ch.get 1 = .int .u64 (H.si : Int) := by have := Blk.qM ch 5 0 1 (by omega); rw [e3] at this; exact (Option.some.inj this).symm
 have x2 : ch.get 2 = .int .u64 (H.ha : Int) := by have := Blk.qM ch 5 0 2 (by omega); rw [e3] at this; exact (Option.some.inj this).symm
 have x4 : ch.get 4 = .int .u64 (H.fi : Int) := by have := Blk.qM ch 5 0 4 (by omega); rw [e3] at this; exact (Option.some.inj this).symm
 have hRa := hR lb
 have hRh := hR hb'
 have hvl : H.v.length = 5 := rfl
 have j0 : (0 : Int) < ((6 : Nat) : Int) := by decide
 have hone : allOne H.v = true := rfl
 have hput : (cz.puts 0 H.v).gets 0 5 = H.v := xR fun j hj => by
  rw [Blk.get_puts, if_pos ⟨by omega, by rw [hvl]; omega⟩, Nat.sub_zero]
 by_cases q71 : m = 71
 rotate_left
 ·have i71 : ¬ (m : Int) = 71 := by omega
  have hok := ok_71 (H := H) (l := l) q71
  simp -implicitDefEqProofs (disch := omega) only [go_sem, seval, ↓reduceIte, ir76_e1, t2, t5, t9, c1, c2, hRa, g0, e1, e2, e3, hRh, z1, z2, z3, hWz, hvl, hone, qE]
  refine ⟨?_, ?_, hk _ _ (by simp -implicitDefEqProofs (disch := omega) only [go_sem, seval, ↓reduceIte, t2]) (by simp -implicitDefEqProofs (disch := omega) only [go_sem, seval, ↓reduceIte, hok]) (by rw [Heap.n_set]; omega) (fun k q1 q2 => (qB (Heap.lt_of_get z1) q2 _)) ⟨_, qF (Heap.lt_of_get z1) rfl _, by rw [Blk.zT]; exact z2, hput⟩⟩
  ·(and_intros; all_goals (intro b hb hc; simp only [List.not_mem_nil, and_false, false_or, or_false, List.mem_singleton] at hb hc <;> omega))
  ·and_intros
   all_goals (intros; first | exact hR _ | exact (by assumption : False).elim | omega)
 have i71 : (m : Int) = 71 := by omega
 by_cases qsi : H.si ≤ H.ep
 rotate_left
 ·have isi : ¬ (H.si : Int) ≤ (H.ep : Int) := by omega
  have hok := ok_si qsi (m := m) (l := l)
  simp -implicitDefEqProofs (disch := omega) only [go_sem, seval, ↓reduceIte, ir76_e1, t2, t5, t9, c1, c2, hRa, g0, i71, isi, e1, e2, e3, x0, x1, hRh, z1, z2, z3, hWz, hvl, hone, qE]
  refine ⟨?_, ?_, hk _ _ (by simp -implicitDefEqProofs (disch := omega) only [go_sem, seval, ↓reduceIte, t2]) (by simp -implicitDefEqProofs (disch := omega) only [go_sem, seval, ↓reduceIte, hok]) (by rw [Heap.n_set]; omega) (fun k q1 q2 => (qB (Heap.lt_of_get z1) q2 _)) ⟨_, qF (Heap.lt_of_get z1) rfl _, by rw [Blk.zT]; exact z2, hput⟩⟩
  ·(and_intros; all_goals (intro b hb hc; simp only [List.not_mem_nil, and_false, false_or, or_false, List.mem_singleton] at hb hc <;> omega))
  ·and_intros
   all_goals (intros; first | exact hR _ | exact (by assumption : False).elim | omega)
 have isi : (H.si : Int) ≤ (H.ep : Int) := by omega
 by_cases qha : H.ha < 2
 rotate_left
 ·have iha : ¬ (H.ha : Int) < 2 := by omega
  have hok := ok_ha qha (m := m) (l := l)
  simp -implicitDefEqProofs (disch := omega) only [go_sem, seval, ↓reduceIte, ir76_e1, t2, t5, t9, c1, c2, hRa, g0, i71, isi, iha, e1, e2, e3, x0, x1, x2, hRh, z1, z2, z3, hWz, hvl, hone, qE]
  refine ⟨?_, ?_, hk _ _ (by simp -implicitDefEqProofs (disch := omega) only [go_sem, seval, ↓reduceIte, t2]) (by simp -implicitDefEqProofs (disch := omega) only [go_sem, seval, ↓reduceIte, hok]) (by rw [Heap.n_set]; omega) (fun k q1 q2 => (qB (Heap.lt_of_get z1) q2 _)) ⟨_, qF (Heap.lt_of_get z1) rfl _, by rw [Blk.zT]; exact z2, hput⟩⟩
  ·(and_intros; all_goals (intro b hb hc; simp only [List.not_mem_nil, and_false, false_or, or_false, List.mem_singleton] at hb hc <;> omega))
  ·and_intros
   all_goals (intros; first | exact hR _ | exact (by assumption : False).elim | omega)
 have iha : (H.ha : Int) < 2 := by omega
 by_cases qfi : 1 ≤ H.fi
 rotate_left
 ·have ifi : ¬ (1 : Int) ≤ (H.fi : Int) := by omega
  have hok := ok_fi qfi (m := m) (l := l)
  simp -implicitDefEqProofs (disch := omega) only [go_sem, seval, ↓reduceIte, ir76_e1, t2, t5, t9, c1, c2, hRa, g0, i71, isi, iha, ifi, e1, e2, e3, x0, x1, x2, x4, hRh, z1, z2, z3, hWz, hvl, hone, qE]
  refine ⟨?_, ?_, hk _ _ (by simp -implicitDefEqProofs (disch := omega) only [go_sem, seval, ↓reduceIte, t2]) (by simp -implicitDefEqProofs (disch := omega) only [go_sem, seval, ↓reduceIte, hok]) (by rw [Heap.n_set]; omega) (fun k q1 q2 => (qB (Heap.lt_of_get z1) q2 _)) ⟨_, qF (Heap.lt_of_get z1) rfl _, by rw [Blk.zT]; exact z2, hput⟩⟩
  ·(and_intros; all_goals (intro b hb hc; simp only [List.not_mem_nil, and_false, false_or, or_false, List.mem_singleton] at hb hc <;> omega))
  ·and_intros
   all_goals (intros; first | exact hR _ | exact (by assumption : False).elim | omega)
 have ifi : (1 : Int) ≤ (H.fi : Int) := by omega
 have hok := ok_eq (l := l) q71 qsi qha qfi
 simp -implicitDefEqProofs (disch := omega) only [go_sem, seval, ↓reduceIte, ir76_e1, t5, t9, c1, c2, g0, i71, isi, iha, ifi, e1, e2, e3, x0, x1, x2, x4]
 refine qN.of (SF.foot (rput_ok (R := qR) (W := noW) hL (fun _ => trivial)).kept (fun _ h => h) (fun _ h => h)) ?_
 rintro r1 g1 ⟨⟨o1, n1, k1⟩, vf1⟩
 obtain ⟨s1, f1, p1⟩ := jI o1.lr (byt_putH H)
 obtain ⟨s2, f2, p2⟩ := jI ((hv.mono (R' := fun b => S b ∧ b < g.n) fun b h1 h2 => ⟨h2, h1⟩).old k1) hb
 have hzn := Heap.lt_of_get z1
 have z1' := (k1 zb (Heap.lt_of_get z1)).trans z1
 have hsb : (decide (jY (putH H) = jY l)) = sameB (putH H) l := rfl
 simp -implicitDefEqProofs (disch := omega) only [go_sem, seval, ↓reduceIte, reduceCtorEq, qE, t0, t2, ↓cvSD, f1, f2, sb_eql, hsb, z1', z2, z3, hWz, hvl, hone]
 have p1' : ∀ b, b ∈ s1 → g.n ≤ b := fun b hb => (p1 b hb).1
 have p2' : ∀ b, b ∈ s2 → b < g.n ∧ b ≠ zb := fun b hb => ⟨(p2 b hb).1.2, hSz b (p2 b hb).1.1⟩
 refine ⟨?_, ?_, hk _ _ (by simp -implicitDefEqProofs (disch := omega) only [go_sem, seval, ↓reduceIte, t2]) (by simp -implicitDefEqProofs (disch := omega) only [go_sem, seval, ↓reduceIte, hok]) (by rw [Heap.n_set]; omega) (fun k q1 q2 => by rw [qB (Heap.lt_of_get z1') q2, k1 k q1]) ⟨_, qF (Heap.lt_of_get z1') rfl _, by rw [Blk.zT]; exact z2, hput⟩⟩
 ·and_intros
  all_goals (intro b hb hc; simp only [noW, qR, List.not_mem_nil, and_false, false_or, or_false, List.mem_singleton] at hb hc)
  all_goals first | omega | (have := p2' b hc.2; omega) | (have := p1' b hc.2; omega)
 ·and_intros
  all_goals (intros; first | exact hR _ | exact (by assumption : False).elim | omega)
set_option maxHeartbeats 8000000 in
theorem rtake_e0 {Q : Ex → Fr → Heap → Prop} {t : List It} {S : Set'} {g : Heap} {v : V} {lb zb m : Nat} {x : Bool} {H : Hd} {l : List V} {tr : Tr V} {c cz : Blk} (hL : H.Lt) (hv : LR g S v l) (hSz : ∀ b, S b → b ≠ zb) (hb : Byt l) (hR : ∀ b, R b) (hWz : W zb) (hWn : ∀ b, g.n ≤ b → W b)
  (c1 : g.get lb = some (.cells c 42)) (c2 : c.size = 6) (g0 : c.get 0 = .int .u64 (m : Int)) (g1 : c.get 1 = .int .u64 (H.ep : Int)) (g2 : c.get 2 = .int .u64 (H.si : Int)) (g3 : c.get 3 = .int .u64 (H.ha : Int)) (g4 : c.get 4 = .int .u64 (H.sz : Int)) (g5 : c.get 5 = .int .u64 (H.fi : Int))
  (z1 : g.get zb = some (.cells cz 107)) (z2 : cz.size = 5) (z3 : cz.ro = false)
  (t0 : tr.get 0 = some v) (t2 : tr.get 2 = some (.ptr (some (zb, 0)))) (t5 : tr.get 5 = some (.slice (some (lb, 0)) 6 6 x))
  (hk : ∀ tr g', tr.get 2 = some (.ptr (some (zb, 0))) → tr.get 3 = some (.bool (Hd.ok H m l)) → g.n ≤ g'.n → (∀ k, k < g.n → k ≠ zb → g'.get k = g.get k) → (∃ c, g'.get zb = some (.cells c 107) ∧ c.size = 5 ∧ c.gets 0 5 = H.v) → Q .ret ⟨⟨75, tr⟩, []⟩ g') :
  GO (Try.prog : MP) R W none Q (It.code ir76_e0 :: t) ⟨⟨75, tr⟩, []⟩ g := by
 have hRa := hR lb
 have j1 : (1 : Int) < ((6 : Nat) : Int) := by decide
 have j2 : (2 : Int) < ((6 : Nat) : Int) := by decide
 have j3 : (3 : Int) < ((6 : Nat) : Int) := by decide
 have j4 : (4 : Int) < ((6 : Nat) : Int) := by decide
 have j5 : (5 : Int) < ((6 : Nat) : Int) := by decide
 have hWg := hWn g.n (Nat.le_refl _)
 simp -implicitDefEqProofs (disch := first | omega | (simp -implicitDefEqProofs only [szs, ne_eq] <;> omega) | fail) only [go_sem, seval, ↓reduceIte, ir76_e0, t5, c1, c2, hRa, g1, g2, g3, g4, g5, hWg, qE]
 have kp : ∀ (o : O) (o' : O) k, k < g.n → ((g.push o).set g.n o').get k = g.get k := fun o o' k hk => by rw [qB (by simp) (by omega), qC (by omega)]
 refine ⟨by (and_intros; all_goals (intro b hb hc; simp only [List.not_mem_nil, and_false, false_or, or_false] at hb hc <;> omega)), ?_⟩
 refine rtake_e1 (x := x) (lb := lb) (zb := zb) (hb' := g.n) (m := m) (H := H) (l := l) (S := S) hL (hv.old fun k hk => kp _ _ k hk) hSz hb hR hWz ((kp _ _ _ (Heap.lt_of_get c1)).trans c1) c2 g0 ((kp _ _ _ (Heap.lt_of_get z1)).trans z1) z2 z3 (qF (by simp) rfl _) (by simp only [Blk.size_set]; rfl) (xR fun j hj => ?_) (by have := Heap.lt_of_get z1; omega) (by simp -implicitDefEqProofs (disch := first | omega | (simp -implicitDefEqProofs only [szs, ne_eq] <;> omega) | fail) only [go_sem, seval, ↓reduceIte, reduceCtorEq, t0]) (by simp -implicitDefEqProofs (disch := first | omega | (simp -implicitDefEqProofs only [szs, ne_eq] <;> omega) | fail) only [go_sem, seval, ↓reduceIte, t2]) (by simp -implicitDefEqProofs (disch := first | omega | (simp -implicitDefEqProofs only [szs, ne_eq] <;> omega) | fail) only [go_sem, seval, ↓reduceIte, t5]) (by simp -implicitDefEqProofs (disch := first | omega | (simp -implicitDefEqProofs only [szs, ne_eq] <;> omega) | fail) only [go_sem, seval, ↓reduceIte]) fun tr g' q2 q3 q4 q5 q6 => hk tr g' q2 q3 (by simp at q4; omega) (fun k w1 w2 => by rw [q5 k (by simp; omega) w2]; exact kp _ _ k w1) q6
 simp only [Blk.get_set]
 have hh : j = 0 ∨ j = 1 ∨ j = 2 ∨ j = 3 ∨ j = 4 := by omega
 rcases hh with rfl | rfl | rfl | rfl | rfl <;> rfl
def TakeQ (h : Heap) (l : List V) (r : V) (g : Heap) : Prop := ∃ H : Hd, H.Lt ∧ r = .tuple [.agg H.v, .bool (headA l).isSome] ∧ (∀ H', headA l = some H' → H' = H) ∧ h.n ≤ g.n ∧ ∀ k, k < h.n → g.get k = h.get k
def nsV (ns : List Nat) : List V := ns.map fun (n : Nat) => .int .u64 (n : Int)
set_option maxHeartbeats 8000000 in
theorem rtake_ok {S : Set'} {v : V} {l : List V} (hv : LR h S v l) (hl : l.length ≤ 1000) (hl0 : 0 < l.length) (hb : Byt l) (hR : ∀ b, R b) : SF Try.prog 76 [v] h R W (TakeQ h l) := by
 have hR' : ∀ b, h.n ≤ b ∨ R b := fun b => .inr (hR b)
 have hone := hv.one
 obtain ⟨nb, o, cap, ex, cb, ce, rfl, hSb, hcb, hcs, _⟩ := hv.get (i := 0) hl0
 have hcg : cb.gets o l.length = l := by
  rcases hv with ⟨rfl, _⟩ | ⟨b', o', cap', ex', c', ce', e, _, h1, h2, h3⟩
  ·cases hl0
  ·cases e; rw [h1] at hcb; cases hcb; exact h3
 have hnb := Heap.lt_of_get hcb
 refine SF.go hm Try.func76 ir76_eq ?_
 rw [ir76_c_eq]
 simp -implicitDefEqProofs (disch := omega) only [go_sem, seval, ↓reduceIte, reduceCtorEq, ir76_c]
 obtain ⟨g0, e0⟩ : ∃ g0, g0 = (h.push (.cells (Blk.of [.int .u64 0, .int .u64 0, .int .u64 0, .int .u64 0, .int .u64 0]) 107)).push (.cells (Blk.of [.slice (some (nb, o)) l.length cap ex, .int .i64 0]) 161) := ⟨_, rfl⟩
 rw [← e0]
 have n0 : g0.n = h.n + 2 := by rw [e0]; simp only [Heap.qG]
 have Z0 : g0.get h.n = some (.cells (Blk.of [.int .u64 0, .int .u64 0, .int .u64 0, .int .u64 0, .int .u64 0]) 107) := by rw [e0, qC (by simp only [Heap.qG]; omega)]; exact qH rfl _
 have R0 : g0.get (h.n + 1) = some (.cells (Blk.of [.slice (some (nb, o)) l.length cap ex, .int .i64 0]) 161) := by rw [e0]; exact qH (by simp only [Heap.qG]) _
 have k0 : ∀ k, k < h.n → g0.get k = h.get k := fun k hk => by rw [e0, qC (by simp only [Heap.qG]; omega), qC (by omega)]
 clear e0
 have hrd0 : RRd g0 (h.n + 1) nb o cap ex l 0 := ⟨⟨_, R0, rfl, rfl, rfl, rfl⟩, ⟨cb, ce, (k0 nb hnb).trans hcb, hcs, hcg⟩, by omega⟩
 refine kE.inv hm (fun k f g => f.mks = [] ∧ f.tm.n = 75 ∧ f.tm.get 0 = some (.slice (some (nb, o)) l.length cap ex) ∧ f.tm.get 2 = some (.ptr (some (h.n, 0))) ∧ f.tm.get 4 = some (.ptr (some (h.n + 1, 0))) ∧ ∃ (i a : Nat) (ns : List Nat) (w : V), i + k = 6 ∧ f.tm.get 6 = some (.int .i64 (i : Int)) ∧ f.tm.get 5 = some w ∧ Own (h.n + 2) g w (nsV ns) 42 ∧ ns.length = i ∧ (∀ n ∈ ns, n < 18446744073709551616) ∧ a ≤ l.length ∧ RRd g (h.n + 1) nb o cap ex l a ∧ rdL 6 l = (rdL (6 - i) (l.drop a)).map (ns ++ ·) ∧ h.n + 2 ≤ g.n ∧ (∀ k, k < h.n → g.get k = h.get k) ∧ g.get h.n = some (.cells (Blk.of [.int .u64 0, .int .u64 0, .int .u64 0, .int .u64 0, .int .u64 0]) 107)) 6 ?_ ?_
 ·exact ⟨rfl, rfl, by simp -implicitDefEqProofs (disch := omega) only [go_sem, seval, ↓reduceIte], by simp -implicitDefEqProofs (disch := omega) only [go_sem, seval, ↓reduceIte, reduceCtorEq], by simp -implicitDefEqProofs (disch := omega) only [go_sem, seval, ↓reduceIte, reduceCtorEq], 0, 0, [], _, by omega, by simp -implicitDefEqProofs (disch := omega) only [go_sem, seval, ↓reduceIte, reduceCtorEq], by simp -implicitDefEqProofs (disch := omega) only [go_sem, seval, ↓reduceIte, reduceCtorEq], Own.nil _ _ _, rfl, (fun n hn => by cases hn), by omega, hrd0, by simp, by omega, k0, Z0⟩
 rintro k ⟨⟨n', tr⟩, mks⟩ g ⟨hmk, hn', t0, t2, t4, i, a, ns, w, hik, t6, t5, ho, hns, hlt, hal, hr, hrd, hng, kg, Zg⟩
 simp only [Tm.kL] at hmk hn' t0 t2 t4 t5 t6
 subst hmk hn'
 have hwo := ho.lr.one
 by_cases hi : i < 6
 ·have hc : (i : Int) < 6 := by omega
  simp -implicitDefEqProofs (disch := omega) only [go_sem, seval, ↓reduceIte, ir76_l0, t4, t6, hc]
  refine qK.of (rrnum_ok hr hR' (.inl (by omega)) hl hb hal) ?_
  rintro r g1 ⟨q1, q2, q3⟩
  obtain ⟨k', hk6⟩ : ∃ k', 6 - i = k' + 1 := ⟨5 - i, by omega⟩
  rw [hk6, rdL_step k' (l.drop a)] at hrd
  have Z1 := (q1 h.n (by omega) (by omega)).trans Zg
  cases hrr : rd (l.drop a) with
  | none =>
   rw [hrr] at q3 hrd
   obtain rfl := q3
   have hnn : headA l = none := headA_none (by rw [hrd]; rfl)
   simp -implicitDefEqProofs (disch := omega) only [go_sem, seval, ↓reduceIte, qE, t2, Z1]
   refine ⟨Hd.zero, ⟨by decide, by decide, by decide, by decide, by decide⟩, ?_, (fun H' e => by rw [hnn] at e; cases e), by rw [Heap.n_set]; omega, fun k hk => by rw [qB (by omega) (by omega), q1 k (by omega) (by omega), kg k hk]⟩
   rw [hnn]; rfl
  | some x =>
   obtain ⟨n, t'⟩ := x
   rw [hrr] at q3 hrd
   obtain ⟨rfl, a', ha', ht', hr'⟩ := q3
   have ho1 : Own (h.n + 2) g1 w (nsV ns) 42 := own_keep' ho fun b c' hb hn => by rw [q1 b (Heap.lt_of_get hb) (by omega)]; exact hb
   obtain ⟨v2, G, rr, ww, hap, ho2, nG, lG, wG, kG, tG⟩ := jK (bytes := 8) (h := g1.push (.cells (Blk.of [.int .u64 (n : Int)]) 42)) (x := .slice (some (g1.n, 0)) 1 1 true) (ho1.old fun b hb => by rw [qC (by omega)]) (by rw [Heap.qG]; omega) rfl (yO (qH rfl _)) rfl (by simp [nsV]; omega) (by simp [nsV]; omega)
   have q5 : allB (fun b => h.n ≤ b ∨ R b) rr := qO fun b _ => hR' b
   have q6 : allB (fun b => h.n ≤ b ∨ W b) ww := qO fun b hb => .inl (by have := wG b hb; omega)
   rw [Heap.qG] at nG
   simp -implicitDefEqProofs (disch := omega) only [go_sem, seval, ↓reduceIte, reduceCtorEq, t0, t2, t4, t5, t6, qU ap_162, hap, q5, q6]
   refine ⟨k - 1, by omega, i + 1, a', ns ++ [n], v2, by omega, by simp, rfl, ?_, by rw [List.length_append, hns]; rfl, fun m hm => ?_, ha', ?_, ?_, by omega, fun k hk => ?_, ?_⟩
   ·unfold nsV at ho2 ⊢; rw [List.map_append]; exact ho2
   ·rcases List.mem_append.1 hm with hm | hm
    ·exact hlt m hm
    ·rw [List.mem_singleton.1 hm]; exact rd_lt (hb.drop a) hrr
   ·obtain ⟨⟨c1, h1, h2⟩, ⟨c2, ce2, h3, h4⟩, h5⟩ := hr'
    have kk : ∀ k, k < h.n + 2 → G.get k = g1.get k := fun k hk => by rw [lG k hk, qC (by omega)]
    exact ⟨⟨c1, (kk _ (by omega)).trans h1, h2⟩, ⟨c2, ce2, (kk _ (by omega)).trans h3, h4⟩, h5⟩
   ·rw [hrd, ht', show 6 - (i + 1) = k' by omega]
    simp only [Option.map_map]
    congr 1
    funext x
    simp
   ·rw [lG k (by omega), qC (by omega), q1 k (by omega) (by omega), kg k hk]
   ·rw [lG _ (by omega), qC (by omega)]; exact Z1
 ·have hc : ¬ (i : Int) < 6 := by omega
  obtain rfl : i = 6 := by omega
  have hnl : (nsV ns).length = 6 := by unfold nsV; rw [List.length_map]; exact hns
  match ns, hns with
  | [m, e1, e2, e3, e4, e5], _ =>
   have hrd6 : rdL 6 l = some [m, e1, e2, e3, e4, e5] := by rw [hrd]; rfl
   rcases ho with ⟨hno, _⟩ | ⟨lb, x, cl, _, rfl, hlb, h1, h2, h3, h4⟩
   ·rw [hno] at hnl; cases hnl
   rw [hnl] at t5 h2 h4
   have hget : ∀ j, j < 6 → cl.get j = (nsV [m, e1, e2, e3, e4, e5]).getD j qE := fun j hj => by
    have := Blk.qM cl 6 0 j hj
    rw [h4, Nat.zero_add] at this
    rw [List.getD_eq_getElem?_getD, this]; rfl
   simp -implicitDefEqProofs (disch := omega) only [go_sem, seval, ↓reduceIte, ir76_l0, t6]
   refine rtake_e0 (x := x) (lb := lb) (zb := h.n) (m := m) (H := ⟨e1, e2, e3, e4, e5⟩) (l := l) (S := fun b => b < h.n) ⟨hlt e1 (by simp), hlt e2 (by simp), hlt e3 (by simp), hlt e4 (by simp), hlt e5 (by simp)⟩ ((hv.mono (R' := fun b => b < h.n) fun b h1 _ => h1).old kg) (fun b hb => by omega) hb hR' (.inl (Nat.le_refl _)) (fun b hb => .inl (by omega)) h1 h2 (hget 0 (by omega)) (hget 1 (by omega)) (hget 2 (by omega)) (hget 3 (by omega)) (hget 4 (by omega)) (hget 5 (by omega)) Zg rfl rfl (by simp -implicitDefEqProofs (disch := omega) only [go_sem, seval, ↓reduceIte, reduceCtorEq, t0]) (by simp -implicitDefEqProofs (disch := omega) only [go_sem, seval, ↓reduceIte, t2]) (by simp -implicitDefEqProofs (disch := omega) only [go_sem, seval, ↓reduceIte, t5]) fun tr' g' q2 q3 q4 q5 q6 => ?_
   obtain ⟨cz, z1, z2, z3⟩ := q6
   have hh := headA_ok hb hrd6
   simp -implicitDefEqProofs (disch := omega) only [go_sem, seval, q2, q3, z1, z2, z3]
   refine ⟨⟨e1, e2, e3, e4, e5⟩, ⟨hlt e1 (by simp), hlt e2 (by simp), hlt e3 (by simp), hlt e4 (by simp), hlt e5 (by simp)⟩, ?_, (fun H' e => ?_), by omega, fun k hk => by rw [q5 k (by omega) (by omega), kg k hk]⟩
   ·rw [hh]
    cases hok : Hd.ok ⟨e1, e2, e3, e4, e5⟩ m l <;> rfl
   ·rw [hh] at e
    split at e
    ·exact (Option.some.inj e).symm
    ·cases e
end Go.Proofs.Ytakgjjbmniilhaa
set_option maxRecDepth 100000
set_option linter.unusedVariables false
namespace Go.Proofs.Ytakgjjbmniilhaa
open Go Go.Vm
attribute [-go_sem] qQ
def LRc (h : Heap) (R : Set') (v : V) (l : List V) : Prop := LR h R v l ∧ xU v
theorem LRc.same {h h' : Heap} {R : Set'} {v : V} {l : List V} (hv : LRc h R v l) (hk : ∀ b, R b → b < h.n → h'.get b = h.get b) : LRc h' R v l := ⟨hv.1.same hk, hv.2⟩
theorem LRc.old {h h' : Heap} {R : Set'} {v : V} {l : List V} (hv : LRc h R v l) (hk : ∀ b, b < h.n → h'.get b = h.get b) : LRc h' R v l := ⟨hv.1.old hk, hv.2⟩
theorem LRc.mono {h : Heap} {R R' : Set'} {v : V} {l : List V} (hv : LRc h R v l) (hk : ∀ b, b < h.n → R b → R' b) : LRc h R' v l := ⟨hv.1.mono hk, hv.2⟩
theorem LRc.one {h : Heap} {R : Set'} {v : V} {l : List V} (hv : LRc h R v l) : v.one = true := hv.1.one
theorem Own.lrc {n0 : Nat} {h : Heap} {v : V} {l : List V} {e : TypeId} (ho : Own n0 h v l e) : LRc h (fun b => n0 ≤ b) v l := ⟨ho.lr, by
 rcases ho with ⟨rfl, rfl | ⟨b, c, rfl, _⟩⟩ | ⟨b, x, c, h0, rfl, _⟩
 ·exact Nat.le_refl _
 ·exact Nat.le_refl _
 ·exact Nat.le_refl _⟩
structure RefAt (h : Heap) (R : Set') (rd : Nat) (D : DS) : Prop where
 pos : 1 ≤ D.n ∧ D.n ≤ 4096
 r : R rd
 d : ∃ c fb pb xf xp, h.get rd = some (.cells c 105) ∧ c.size = 3 ∧ c.ro = false ∧ c.get 0 = .slice (some (fb, 0)) D.n D.n xf ∧ c.get 1 = .slice (some (pb, 0)) D.n D.n xp ∧ c.get 2 = .int .i64 D.wr ∧
  R fb ∧ R pb ∧ (∃ cf, h.get fb = some (.cells cf 22) ∧ cf.size = D.n ∧ cf.ro = false ∧ ∀ s, s < D.n → LRc h R (cf.get s) (D.fl s)) ∧
  (∃ cp, h.get pb = some (.cells cp 45) ∧ cp.size = D.n ∧ cp.ro = false ∧ ∀ s, s < D.n → ∃ vs, LR h R (cp.get s) vs ∧ vs.length = (D.pe s).length ∧ ∀ i l, (D.pe s)[i]? = some l → LRc h R (vs.getD i qE) l)
 fl : ∀ s, s < D.n → zS (D.fl s)
 pe : ∀ s, ∀ l ∈ D.pe s, zS l
 out : ∀ s, D.n ≤ s → D.pe s = []
 few : ∀ s, (D.pe s).length ≤ 1000000000
theorem rin_ok {h : Heap} {R W S : Set'} {rd : Nat} {D : DS} (hr : RefAt h S rd D) (hR : ∀ b, R b) (k : Int) : SF Try.prog 82 [.ptr (some (rd, 0)), .int .i64 k] h R W fun v h' => v = .bool (decide (0 ≤ k ∧ k < D.n)) ∧ h' = h := by
 obtain ⟨c, fb, pb, xf, xp, d1, d2, d3, d4, d5, d6, _⟩ := hr.d
 have hRr := hR rd
 have hp := hr.pos
 refine SF.go hm Try.func82 ir82_eq ?_
 by_cases h0 : 0 ≤ k
 ·simp -implicitDefEqProofs (disch := omega) only [go_sem, seval, ↓reduceIte, reduceCtorEq, ir82, d1, d2, d4, hRr]
  congr 1
  exact decide_eq_decide.2 (by omega)
 ·simp -implicitDefEqProofs (disch := omega) only [go_sem, seval, ↓reduceIte, reduceCtorEq, ir82, qE]
  congr 1
  exact (decide_eq_false (by omega)).symm
theorem rseen_ok {h : Heap} {R W S : Set'} {rd : Nat} {D : DS} (hr : RefAt h S rd D) (hR : ∀ b, R b) {s : Nat} (hs : s < D.n) : SF Try.prog 59 [.ptr (some (rd, 0)), .int .i64 s] h R W fun v h' => LRc h S v (D.seen s) ∧ h' = h := by
 obtain ⟨c, fb, pb, xf, xp, d1, d2, d3, d4, d5, d6, _, _, ⟨cf, f1, f2, f3, f4⟩, ⟨cp, p1, p2, p3, p4⟩⟩ := hr.d
 have hp := hr.pos
 have hRr := hR rd
 have hRf := hR fb
 have hRp := hR pb
 have hfew := hr.few s
 obtain ⟨vs, v1, v2, v3⟩ := p4 s hs
 have hlen := v1.lenV Try.underlying45
 rw [v2] at hlen
 refine SF.go hm Try.func59 ir59_eq ?_
 by_cases he : D.pe s = []
 ·rw [he, List.length_nil] at hlen
  simp -implicitDefEqProofs (disch := omega) only [go_sem, seval, ↓reduceIte, reduceCtorEq, ir59, d1, d2, d4, d5, p1, p2, f1, f2, hRr, hRf, hRp, ↓hlen]
  rw [DS.seen_nil he]
  exact f4 s hs
 ·have hp0 := List.length_pos_iff.2 he
  have hgs := DS.seen_get he
  obtain ⟨b, o, cap, ex, cc, ce, hv, hRb', hb, hbs, hbg⟩ := v1.get (i := (D.pe s).length - 1) (by omega)
  have h3 := v3 _ _ hgs
  have hRb := hR b
  have hto : (((D.pe s).length : Int) - 1).toNat = (D.pe s).length - 1 := by omega
  rw [v2] at hv hbs
  rw [hv] at hlen
  simp -implicitDefEqProofs (disch := omega) only [go_sem, seval, ↓reduceIte, reduceCtorEq, ir59, d1, d2, d5, p1, p2, hRr, hRp, hv, ↓hlen, hb, hRb, hto]
  rw [hbg]
  exact h3
set_option maxHeartbeats 1000000 in
theorem rbytes_ok {h : Heap} {R W S : Set'} {rd : Nat} {D : DS} (hr : RefAt h S rd D) (hR : ∀ b, R b) : SF Try.prog 57 [.ptr (some (rd, 0))] h R W fun v h' => Own h.n h' v (flatF D.fl D.n) 5 ∧ ∀ b, b < h.n → h'.get b = h.get b := by
 obtain ⟨c, fb, pb, xf, xp, d1, d2, d3, d4, d5, d6, _, _, ⟨cf, f1, f2, f3, f4⟩, _⟩ := hr.d
 have hp := hr.pos
 have hRr := hR rd
 have hRf := hR fb
 have hlt1 := Heap.lt_of_get d1
 have hlt2 := Heap.lt_of_get f1
 have hN := zA
 refine SF.go hm Try.func57 ir57_eq ?_
 simp -implicitDefEqProofs (disch := omega) only [go_sem, seval, ↓reduceIte, reduceCtorEq, ir57]
 refine kE.inv hm (fun k f g => f.mks = [] ∧ f.tm.n = 26 ∧ f.tm.get 0 = some (.ptr (some (rd, 0))) ∧ ∃ (i : Nat) (v : V), i + k = D.n ∧ f.tm.get 4 = some (.int .i64 i) ∧ f.tm.get 3 = some v ∧ h.n ≤ g.n ∧ Own h.n g v (flatF D.fl i) 5 ∧ ∀ b, b < h.n → g.get b = h.get b) D.n ?_ ?_
 ·exact ⟨rfl, rfl, by simp -implicitDefEqProofs (disch := omega) only [go_sem, seval, ↓reduceIte], 0, _, by omega, by simp -implicitDefEqProofs (disch := omega) only [go_sem, seval, ↓reduceIte, reduceCtorEq], by simp -implicitDefEqProofs (disch := omega) only [go_sem, seval, ↓reduceIte, reduceCtorEq], Nat.le_refl _, Own.nil _ _ _, fun _ _ => rfl⟩
 rintro k ⟨⟨n', tr⟩, mks⟩ g ⟨hmk, hn', t0, i, v, hi, t4, t3, hgn, ho, hold⟩
 simp only [Tm.kL] at hmk hn' t0 t4 t3
 subst hmk hn'
 have d1' := (hold _ hlt1).trans d1
 have f1' := (hold _ hlt2).trans f1
 by_cases hin : i < D.n
 ·have hs := hr.fl i hin
  have hfl := flatF_len (f := D.fl) (n := i) fun s h => hr.fl s (by omega)
  have hsl := hs.1
  obtain ⟨hx1, rs, hx2, _⟩ := first_lr ((f4 i hin).old hold).1
  obtain ⟨v', g', r', w', hap, o', m', k', hw', _⟩ := jK (bytes := 1) ho hgn hx1 hx2 hs.one (by omega) (by omega)
  have hr0 : allB (fun b => h.n ≤ b ∨ R b) r' := qO fun b _ => .inr (hR b)
  have hw0 : allB (fun b => h.n ≤ b ∨ W b) w' := qO fun b hb => .inl (hw' b hb)
  simp -implicitDefEqProofs (disch := omega) only [go_sem, seval, ↓reduceIte, reduceCtorEq, ir57_l0, t0, t3, t4, d1', d2, d4, f1', f2, hRr, hRf, qU jO, hap, hr0, hw0]
  exact ⟨k - 1, by omega, i + 1, _, by omega, rfl, rfl, by omega, o', fun b hb => by rw [k' b hb, hold b hb]⟩
 ·obtain rfl : i = D.n := by omega
  simp -implicitDefEqProofs (disch := omega) only [go_sem, seval, ↓reduceIte, reduceCtorEq, ir57_l0, t0, t3, t4, d1', d2, d4, hRr]
  exact ⟨ho, hold⟩
theorem rep_gets0 (n : Nat) (v : V) : (Blk.rep n [v]).gets 0 n = List.replicate n v := by
 refine Blk.jH (fun j hj => ?_) (by simp)
 rw [List.length_replicate] at hj
 rw [rep_get, show (0 + j) % [v].length = 0 from Nat.mod_one _, List.getD_eq_getElem?_getD, List.getD_eq_getElem?_getD, List.getElem?_replicate, if_pos hj]; rfl
structure RefFresh (h : Heap) (n0 rd n : Nat) (F : Nat → List V) (sb : Nat → Nat) : Prop where
 lo : n0 ≤ rd
 d : ∃ c fb pb xf, h.get rd = some (.cells c 105) ∧ c.size = 3 ∧ c.ro = false ∧ c.get 0 = .slice (some (fb, 0)) n n xf ∧ c.get 1 = .slice (some (pb, 0)) n n true ∧ c.get 2 = .int .i64 0 ∧ n0 ≤ fb ∧ n0 ≤ pb ∧
  (∃ cf, h.get fb = some (.cells cf 22) ∧ cf.size = n ∧ cf.ro = false ∧ ∀ s, s < n → cf.get s = .slice (some (sb s, 0)) 128 128 true) ∧ h.get pb = some (.cells (Blk.rep n [.slice none 0 0 true]) 45)
 s : ∀ s, s < n → n0 ≤ sb s ∧ ∃ cc, h.get (sb s) = some (.cells cc 5) ∧ cc.size = 128 ∧ cc.ro = false ∧ cc.gets 0 secN = F s
 inj : ∀ s t, s < n → t < n → s ≠ t → sb s ≠ sb t
set_option maxHeartbeats 1000000 in
theorem rnew_ok {h : Heap} {R W : Set'} {n : Nat} (hn : 1 ≤ n ∧ n ≤ 4096) (hR : ∀ b, R b) : SF Try.prog 48 [.int .i64 n] h R W fun v h' => v = .ptr (some (h.n + 1, 0)) ∧ (∃ sb, RefFresh h' h.n (h.n + 1) n (fun _ => jD) sb) ∧ ∀ b, b < h.n → h'.get b = h.get b := by
 have hc : 0 ≤ (n : Int) ∧ (n : Int) ≤ (n : Int) ∧ 24 * (n : Int).toNat ≤ 281474976710656 ∧ (n : Int) ≤ 9223372036854775807 := by omega
 have hc2 : 24 * n ≤ 281474976710656 := by omega
 have htn : (n : Int).toNat = n := by omega
 have hN := zA
 refine SF.go hm Try.func48 ir48_eq ?_
 simp -implicitDefEqProofs (disch := first | omega | (simp -implicitDefEqProofs only [szs, ne_eq] <;> omega) | fail) only [go_sem, seval, ↓reduceIte, reduceCtorEq, ir48, hc, hc2, htn]
 refine kE.inv hm (fun k f g => f.mks = [] ∧ f.tm.n = 31 ∧ f.tm.get 0 = some (.int .i64 n) ∧ f.tm.get 3 = some (.ptr (some (h.n + 1, 0))) ∧ ∃ (i : Nat) (l : List V) (v : V), i + k = n ∧ f.tm.get 4 = some (.int .i64 i) ∧ l.length = i ∧ h.n + 2 ≤ g.n ∧ Own (h.n + 2) g v l 22 ∧ (∃ c, g.get (h.n + 1) = some (.cells c 105) ∧ c.size = 3 ∧ c.ro = false ∧ c.get 0 = v ∧ c.get 1 = .slice (some (h.n, 0)) n n true ∧ c.get 2 = .int .i64 0) ∧ g.get h.n = some (.cells (Blk.rep n [.slice none 0 0 true]) 45) ∧ (∀ j, j < i → ∃ b, l[j]? = some (.slice (some (b, 0)) 128 128 true) ∧ h.n + 2 ≤ b ∧ g.get b = some (.cells (Blk.rep 128 [.int .u8 0]) 5) ∧ ∀ j2 b2, j2 < i → j2 ≠ j → l[j2]? = some (.slice (some (b2, 0)) 128 128 true) → b2 ≠ b) ∧ ∀ b, b < h.n → g.get b = h.get b) n ?_ ?_
 ·exact ⟨rfl, rfl, by simp -implicitDefEqProofs (disch := first | omega | (simp -implicitDefEqProofs only [szs, ne_eq] <;> omega) | fail) only [go_sem, seval, ↓reduceIte], by simp -implicitDefEqProofs (disch := first | omega | (simp -implicitDefEqProofs only [szs, ne_eq] <;> omega) | fail) only [go_sem, seval, ↓reduceIte, reduceCtorEq], 0, [], _, by omega, by simp -implicitDefEqProofs (disch := first | omega | (simp -implicitDefEqProofs only [szs, ne_eq] <;> omega) | fail) only [go_sem, seval, ↓reduceIte, reduceCtorEq], rfl, by simp, Own.nil _ _ _, ⟨_, by simp -implicitDefEqProofs (disch := first | omega | (simp -implicitDefEqProofs only [szs, ne_eq] <;> omega) | fail) only [go_sem, seval]; rfl, rfl, rfl, rfl, rfl, rfl⟩, by simp -implicitDefEqProofs (disch := first | omega | (simp -implicitDefEqProofs only [szs, ne_eq] <;> omega) | fail) only [go_sem, seval], fun j hj => by omega, fun b hb => by simp -implicitDefEqProofs (disch := first | omega | (simp -implicitDefEqProofs only [szs, ne_eq] <;> omega) | fail) only [go_sem, seval]⟩
 rintro k ⟨⟨n', tr⟩, mks⟩ g ⟨hmk, hn', t0, t3, i, l, v, hik, t4, hl, hgn, ho, ⟨c, c1, cs, cr, c0, c2, c3⟩, hp, htx, hold⟩
 simp only [Tm.kL] at hmk hn' t0 t3 t4
 subst hmk hn'
 by_cases hin : i < n
 ·obtain ⟨v', h', r', w', hap, o', m', k', hw', kk, ht⟩ := jK (n0 := h.n + 2) (h := (g.push (.cells (Blk.rep 128 [.int .u8 0]) 5)).push (.cells (Blk.of [.slice (some (g.n, 0)) 128 128 true]) 22)) (x := .slice (some (g.n + 1, 0)) 1 1 true) (news := [.slice (some (g.n, 0)) 128 128 true]) (rs := [g.n + 1]) (bytes := 24) (ho.old fun b hb => by simp -implicitDefEqProofs (disch := first | omega | (simp -implicitDefEqProofs only [szs, ne_eq] <;> omega) | fail) only [go_sem, seval]) (by simp; omega) rfl (yO (e := 22) (by simp -implicitDefEqProofs (disch := first | omega | (simp -implicitDefEqProofs only [szs, ne_eq] <;> omega) | fail) only [go_sem, seval])) rfl (by simp only [List.length_cons, List.length_nil]; omega) (by simp only [List.length_cons, List.length_nil]; omega)
  have hgn' : g.n + 2 ≤ h'.n := by simp at m'; omega
  have hkk : ∀ b o, b < g.n → g.get b = some o → (∀ c, o ≠ .cells c 22) → h'.get b = some o := fun b o hb e hne => by
   rw [kk b (by simp; omega) (fun hb' => by
    obtain ⟨c', e'⟩ := ht b hb'
    rw [qC (by simp; omega), qC (by omega), e] at e'
    exact hne c' (Option.some.inj e'))]
   rw [qC (by simp; omega), qC (by omega), e]
  have hnew : h'.get g.n = some (.cells (Blk.rep 128 [.int .u8 0]) 5) := by
   rw [kk g.n (by simp; omega) (fun hb' => by
    obtain ⟨c', e'⟩ := ht _ hb'
    rw [qC (by simp), qH rfl] at e'
    cases e')]
   simp -implicitDefEqProofs (disch := first | omega | (simp -implicitDefEqProofs only [szs, ne_eq] <;> omega) | fail) only [go_sem, seval]
  have c1' := hkk _ _ (Heap.lt_of_get c1) c1 (fun c => by simp)
  have hlt' := Heap.lt_of_get c1'
  have hcv := o'.lr.cells
  have hon := o'.lr.one
  have hRq := fun b => (show (h.n ≤ b ∨ R b) = (h.n ≤ b ∨ R b) from rfl)
  simp -implicitDefEqProofs (disch := first | omega | (simp -implicitDefEqProofs only [szs, ne_eq] <;> omega) | fail) only [go_sem, seval, ↓reduceIte, reduceCtorEq, ir48_l0, t0, t3, t4, c1, cs, cr, c0, qU ap_45, hap, c1', ↓hcv, ↓hon]
  simp only [List.not_mem_nil, or_false, false_or, and_false, false_implies, implies_true, not_false_eq_true, List.mem_cons, and_true, true_and]
  have hlg : ∀ j, j < i → (l ++ [V.slice (some (g.n, 0)) 128 128 true])[j]? = l[j]? := fun j hj => List.getElem?_append_left (by omega)
  have hlgi : (l ++ [V.slice (some (g.n, 0)) 128 128 true])[i]? = some (V.slice (some (g.n, 0)) 128 128 true) := by
   rw [List.getElem?_append_right (by omega), show i - l.length = 0 by omega]; rfl
  refine ⟨fun b hb => by omega, ⟨fun b _ _ => .inr (hR b), fun b _ hb => .inl (by have := hw' b hb; omega)⟩, k - 1, by omega, i + 1, _, _, by omega, rfl, by simp; omega, by omega, o'.keep ?_, ⟨c.set 0 v', rfl, by rw [Blk.size_set]; exact cs, by rw [Blk.qY]; exact cr, by simp -implicitDefEqProofs (disch := first | omega | (simp -implicitDefEqProofs only [szs, ne_eq] <;> omega) | fail) only [go_sem, seval], by simp -implicitDefEqProofs (disch := first | omega | (simp -implicitDefEqProofs only [szs, ne_eq] <;> omega) | fail) only [go_sem, seval, c2], by simp -implicitDefEqProofs (disch := first | omega | (simp -implicitDefEqProofs only [szs, ne_eq] <;> omega) | fail) only [go_sem, seval, c3]⟩, hkk _ _ (Heap.lt_of_get hp) hp (fun c => by simp), fun j hj => ?_, fun b hb => ?_⟩
  ·intro b c' e
   have : b ≠ h.n + 1 := fun e2 => by rw [e2, c1'] at e; simp at e
   rw [qB hlt' this]; exact e
  ·by_cases hji : j < i
   ·obtain ⟨b, e1, e2, e3, e4⟩ := htx j hji
    have hbl := Heap.lt_of_get e3
    refine ⟨b, by rw [hlg j hji]; exact e1, e2, ?_, fun j2 b2 hj2 hne e5 => ?_⟩
    ·rw [qB hlt' (by omega)]; exact hkk _ _ hbl e3 (fun c => by simp)
    ·by_cases hj2i : j2 < i
     ·rw [hlg j2 hj2i] at e5; exact e4 j2 b2 hj2i hne e5
     ·obtain rfl : j2 = i := by omega
      rw [hlgi] at e5
      have : g.n = b2 := by simpa using e5
      omega
   ·obtain rfl : j = i := by omega
    refine ⟨g.n, hlgi, by omega, ?_, fun j2 b2 hj2 hne e5 => ?_⟩
    ·rw [qB hlt' (by omega)]; exact hnew
    ·rw [hlg j2 (by omega)] at e5
     obtain ⟨b, e1, e2, e3, e4⟩ := htx j2 (by omega)
     have hbl := Heap.lt_of_get e3
     rw [e1] at e5
     have : b = b2 := by simpa using e5
     omega
  ·rw [qB hlt' (by omega), k' b (by omega), qC (by simp; omega), qC (by omega), hold b hb]
 ·have : i = n := by omega
  subst this
  simp -implicitDefEqProofs (disch := first | omega | (simp -implicitDefEqProofs only [szs, ne_eq] <;> omega) | fail) only [go_sem, seval, ↓reduceIte, reduceCtorEq, ir48_l0, t0, t3, t4]
  rcases ho with ⟨rfl, _⟩ | ⟨b, x, cb, h0, rfl, hb0, hb, hbs, hbr, hbg⟩
  ·simp at hl; omega
  have hcg : ∀ s, s < i → ∃ b2, cb.get s = .slice (some (b2, 0)) 128 128 true ∧ h.n + 2 ≤ b2 ∧ g.get b2 = some (.cells (Blk.rep 128 [.int .u8 0]) 5) ∧ ∀ j2 b3, j2 < i → j2 ≠ s → l[j2]? = some (.slice (some (b3, 0)) 128 128 true) → b3 ≠ b2 := fun s hs => by
   obtain ⟨b2, e1, e2, e3, e4⟩ := htx s hs
   refine ⟨b2, ?_, e2, e3, e4⟩
   have := Blk.qM cb l.length 0 s (by omega)
   rw [hbg, Nat.zero_add, e1] at this
   exact (Option.some.inj this).symm
  have hz : (Blk.rep 128 [V.int .u8 0]).gets 0 128 = jD := by rw [rep_gets0, ze_eq, hN]
  have hlb : ∀ s, s < i → ∃ b2, l[s]? = some (.slice (some (b2, 0)) 128 128 true) ∧ cb.get s = .slice (some (b2, 0)) 128 128 true := fun s hs => by
   obtain ⟨b2, e1, e2, e3, e4⟩ := htx s hs
   refine ⟨b2, e1, ?_⟩
   have := Blk.qM cb l.length 0 s (by omega)
   rw [hbg, Nat.zero_add, e1] at this
   exact (Option.some.inj this).symm
  refine ⟨⟨fun s => sblk (cb.get s), by omega, ⟨c, b, h.n, x, c1, cs, cr, by rw [c0, hl], c2, c3, by omega, by omega, ⟨cb, hb, by rw [hbs, hl], hbr, fun s hs => ?_⟩, hp⟩, fun s hs => ?_, fun s t hs ht hst => ?_⟩, hold⟩
  ·obtain ⟨b2, e1, e2, e3, _⟩ := hcg s hs
   rw [e1]; rfl
  ·obtain ⟨b2, e1, e2, e3, _⟩ := hcg s hs
   rw [e1]
   exact ⟨by show h.n ≤ b2; omega, _, e3, rfl, rfl, by rw [hN]; exact hz⟩
  ·obtain ⟨b2, e1, e2, e3, e4⟩ := hcg s hs
   obtain ⟨b3, g1, g2⟩ := hlb t ht
   have := e4 t b3 ht (Ne.symm hst) g1
   rw [e1, g2]
   exact Ne.symm this
end Go.Proofs.Ytakgjjbmniilhaa
