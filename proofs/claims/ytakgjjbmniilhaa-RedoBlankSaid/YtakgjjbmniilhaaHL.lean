/- The log: Append, whole. -/
import Derived.Test.YtakgjjbmniilhaaHK
set_option linter.unusedVariables false
set_option linter.unusedSimpArgs false
set_option linter.unusedSimpArgs false
set_option maxRecDepth 100000
set_option linter.unusedVariables false
set_option linter.unusedSimpArgs false
namespace Go.Proofs.Ytakgjjbmniilhaa
open Go Go.Vm
attribute [-go_sem] sz_101
variable {h g : Heap} {R W M N : Set'} {bd lp fr ct : Nat} {D : DS} {G : LgS}
theorem app_rec {N : Set'} {rv x : V} {vs : List V} (ho : Own 0 h rv vs 22) (hn : rv = .slice none 0 0 true ∨ N (sblk rv)) (hx : x.one = true) (hv : vs.length ≤ 1000000) (hpos : 0 < h.n) :
    ∃ v' h' r w, appE 22 1 24 rv (.slice (some (h.n, 0)) 1 1 true) (h.push (.cells (Blk.of [x]) 22)) = some ⟨v', h', r, w⟩ ∧ Own 0 h' v' (vs ++ [x]) 22 ∧ h.n + 1 ≤ h'.n ∧ (∀ b, b < h.n → b ∉ w → h'.get b = h.get b) ∧ (∀ b ∈ w, N b ∧ ∃ c, h.get b = some (.cells c 22)) ∧ (N (sblk v') ∨ h.n ≤ sblk v') := by
  have hfo : firstV (h.push (.cells (Blk.of [x]) 22)) 1 [x].length (.slice (some (h.n, 0)) 1 1 true) = some ([x], [h.n]) := first_one (w_push_eq rfl _)
  have hone : allOne [x] = true := by simp only [allOne, hx]
  rcases hn with rfl | hn
  · have hvs : vs = [] := by
      rcases ho with ⟨h5, _⟩ | ⟨_, _, _, _, h5, _⟩
      · exact h5
      · cases h5
    subst hvs
    obtain ⟨v2, G, rr, ww, hap, ho2, nG, lG, wG, kG, tG⟩ := app_own (bytes := 24) (h := h.push (.cells (Blk.of [x]) 22)) (x := .slice (some (h.n, 0)) 1 1 true) (Own.nil h.n _ 22) (by rw [Heap.n_push]; omega) rfl hfo hone (by simp) (by simp)
    have hww := appE_w hap
    have hno : ∀ b ∈ ww, False := fun b hb => by
      have h1 := wG b hb
      have h2 := hww b hb
      simp only [sblk] at h2
      omega
    refine ⟨v2, G, rr, ww, hap, ho2.mono (Nat.zero_le _), nG, fun b h1 h2 => ?_, fun b h1 => (hno b h1).elim, ?_⟩
    · rw [kG b (by rw [Heap.n_push]; omega) h2, w_push_ne (by omega)]
    · rcases Own.nb ho2 with h3 | h3
      · exfalso
        rw [h3] at ho2
        rcases ho2 with ⟨h5, _⟩ | ⟨_, _, _, _, h5, _⟩
        · simp at h5
        · cases h5
      · exact .inr h3
  · have hsl := ho.sblk_lt hpos
    obtain ⟨v2, G, rr, ww, hap, ho2, nG, lG, wG, kG, tG⟩ := app_own (bytes := 24) (h := h.push (.cells (Blk.of [x]) 22)) (x := .slice (some (h.n, 0)) 1 1 true) (ho.old fun b hb => by rw [w_push_ne (by omega)]) (Nat.zero_le _) rfl hfo hone (by simp only [List.length_cons, List.length_nil]; omega) (by simp only [List.length_cons, List.length_nil]; omega)
    have hsb := appE_blk hap
    have hww := appE_w hap
    simp only [Heap.n_push] at hsb hww
    refine ⟨v2, G, rr, ww, hap, ho2, nG, fun b h1 h2 => ?_, fun b h1 => ⟨hww b h1 ▸ hn, ?_⟩, ?_⟩
    · rw [kG b (by rw [Heap.n_push]; omega) h2, w_push_ne (by omega)]
    · obtain ⟨c, h2⟩ := tG b h1
      rw [w_push_ne (by have := hww b h1; omega)] at h2
      exact ⟨c, h2⟩
    · rcases hsb with h1 | h1
      · rw [h1]; exact .inl hn
      · right; omega
def AppQ (h : Heap) (M N : Set') (lp bd fr ct : Nat) (D : DS) (G : LgS) (l : List V) (r : V) (g : Heap) : Prop :=
  if 6912 < l.length then r = .tuple [.int .i64 0, .int .i64 3] ∧ h.n ≤ g.n ∧ ∀ k, k < h.n → g.get k = h.get k
  else if (ct - 2) / 2 < (partsN l.length).1 + G.at' then r = .tuple [.int .i64 0, .int .i64 5] ∧ h.n ≤ g.n ∧ ∀ k, k < h.n → g.get k = h.get k
  else r = .tuple [.int .i64 (G.nx : Int), .int .i64 0] ∧ TwoQ h g M N lp bd fr ct (appW D fr ct G l (partsN l.length).1 (partsN l.length).1) { G with at' := G.at' + (partsN l.length).1, nx := G.nx + 1, rs := G.rs ++ [l] }
def ir13_w : LC := (.seq (.ops [⟨some 84, Op.move (Operand.tmp 0), none⟩,
    ⟨some 85, Op.nilCheck (Operand.tmp 84), none⟩,
    ⟨some 86, Op.fieldAddr 47 (Operand.tmp 85) 5, none⟩,
    ⟨some 87, Op.load 3 (Operand.tmp 86), none⟩,
    ⟨some 88, Op.move (Operand.tmp 6), none⟩,
    ⟨some 89, Op.binOp BinOp.add 3 (Operand.tmp 87) (Operand.tmp 88) 3, none⟩,
    ⟨some 90, Op.nilCheck (Operand.tmp 84), none⟩,
    ⟨some 91, Op.fieldAddr 47 (Operand.tmp 90) 5, none⟩,
    ⟨none, Op.store 3 (Operand.tmp 91) (Operand.tmp 89), none⟩])
  (.seq (.ops [⟨some 92, Op.move (Operand.tmp 0), none⟩,
    ⟨some 93, Op.nilCheck (Operand.tmp 92), none⟩,
    ⟨some 94, Op.fieldAddr 47 (Operand.tmp 93) 4, none⟩,
    ⟨some 95, Op.load 42 (Operand.tmp 94), none⟩,
    ⟨some 96, Op.binOp BinOp.add 42 (Operand.tmp 95) (Operand.const (Value.int IntKind.u64 1)) 42, none⟩,
    ⟨some 97, Op.nilCheck (Operand.tmp 92), none⟩,
    ⟨some 98, Op.fieldAddr 47 (Operand.tmp 97) 4, none⟩,
    ⟨none, Op.store 42 (Operand.tmp 98) (Operand.tmp 96), none⟩])
  (.seq (.draw [⟨some 99, Op.move (Operand.tmp 0), none⟩,
    ⟨some 100, Op.move (Operand.tmp 0), none⟩,
    ⟨some 101, Op.nilCheck (Operand.tmp 100), none⟩,
    ⟨some 102, Op.fieldAddr 47 (Operand.tmp 101) 8, none⟩,
    ⟨some 103, Op.load 45 (Operand.tmp 102), none⟩,
    ⟨some 104, Op.move (Operand.tmp 1), none⟩,
    ⟨some 105, Op.call { callee := Callee.value (Operand.func 42), args := #[Operand.tmp 104], argTypes := #[22] }, none⟩,
    ⟨some 106, Op.buildSlice 45 1 #[(0, Operand.tmp 105)], none⟩,
    ⟨some 107, Op.call { callee := Callee.builtin Builtin.append, args := #[Operand.tmp 103, Operand.tmp 106], argTypes := #[45, 45] }, none⟩,
    ⟨some 108, Op.nilCheck (Operand.tmp 99), none⟩,
    ⟨some 109, Op.fieldAddr 47 (Operand.tmp 108) 8, none⟩,
    ⟨none, Op.store 45 (Operand.tmp 109) (Operand.tmp 107), none⟩] [(0, 6), (1, 6), (2, 6), (3, 6), (4, 6), (0, 7), (1, 7), (2, 7), (3, 7), (4, 7), (0, 8)])
  (.seq (.ops [⟨some 110, Op.move (Operand.tmp 0), none⟩,
    ⟨some 111, Op.nilCheck (Operand.tmp 110), none⟩,
    ⟨some 112, Op.fieldAddr 47 (Operand.tmp 111) 4, none⟩,
    ⟨some 113, Op.load 42 (Operand.tmp 112), none⟩,
    ⟨some 114, Op.binOp BinOp.sub 42 (Operand.tmp 113) (Operand.const (Value.int IntKind.u64 1)) 42, none⟩,
    ⟨some 115, Op.convert 42 2 (Operand.tmp 114), none⟩,
    ⟨some 4, Op.assign (Operand.tmp 115), none⟩,
    ⟨some 5, Op.assign (Operand.const (Value.int IntKind.i64 0)), none⟩])
  .ret))))
def ir13_c : LC := (.seq (.ops [⟨some 4, Op.assign (Operand.const (Value.int IntKind.i64 0)), none⟩,
    ⟨some 5, Op.assign (Operand.const (Value.int IntKind.i64 0)), none⟩])
  (.seq (.seq (.ops [⟨some 13, Op.move (Operand.tmp 0), none⟩,
    ⟨some 14, Op.call { callee := Callee.value (Operand.func 39), args := #[Operand.tmp 13], argTypes := #[32] }, none⟩,
    ⟨some 15, Op.unOp UnOp.not 4 (Operand.tmp 14), none⟩])
  (.cond (Operand.tmp 15)
  (.seq (.ops [⟨some 4, Op.assign (Operand.const (Value.int IntKind.i64 0)), none⟩,
    ⟨some 5, Op.assign (Operand.const (Value.int IntKind.i64 1)), none⟩])
  .ret)
  .skip))
  (.seq (.ops [⟨some 17, Op.move (Operand.tmp 1), none⟩,
    ⟨some 18, Op.call { callee := Callee.value (Operand.func 9), args := #[Operand.tmp 17], argTypes := #[22] }, none⟩,
    ⟨some 16, Op.move (Operand.tmp 18), none⟩,
    ⟨some 19, Op.extract (Operand.tmp 16) 0, none⟩,
    ⟨some 20, Op.extract (Operand.tmp 16) 1, none⟩,
    ⟨some 6, Op.assign (Operand.tmp 19), none⟩,
    ⟨some 7, Op.assign (Operand.tmp 20), none⟩])
  (.seq (.block 0 (.seq (.ops [⟨some 22, Op.move (Operand.tmp 7), none⟩,
    ⟨some 23, Op.binOp BinOp.neq 25 (Operand.tmp 22) (Operand.const (Value.int IntKind.i64 0)) 25, none⟩,
    ⟨some 21, Op.assign (Operand.tmp 23), none⟩])
  (.cond (Operand.tmp 21)
  (.seq (.ops [⟨some 24, Op.move (Operand.tmp 7), none⟩,
    ⟨some 4, Op.assign (Operand.const (Value.int IntKind.i64 0)), none⟩,
    ⟨some 5, Op.assign (Operand.tmp 24), none⟩])
  .ret)
  (.seq (.ops [⟨some 26, Op.move (Operand.tmp 6), none⟩,
    ⟨some 27, Op.move (Operand.tmp 0), none⟩,
    ⟨some 28, Op.call { callee := Callee.value (Operand.func 19), args := #[Operand.tmp 27], argTypes := #[32] }, none⟩,
    ⟨some 29, Op.binOp BinOp.gtr 3 (Operand.tmp 26) (Operand.tmp 28) 3, none⟩,
    ⟨some 25, Op.assign (Operand.tmp 29), none⟩])
  (.cond (Operand.tmp 25)
  (.seq (.ops [⟨some 4, Op.assign (Operand.const (Value.int IntKind.i64 0)), none⟩,
    ⟨some 5, Op.assign (Operand.const (Value.int IntKind.i64 5)), none⟩])
  .ret)
  .skip)))))
  (.seq (.ops [⟨some 31, Op.move (Operand.tmp 0), none⟩,
    ⟨some 32, Op.call { callee := Callee.value (Operand.func 40), args := #[Operand.tmp 31], argTypes := #[32] }, none⟩,
    ⟨some 30, Op.move (Operand.tmp 32), none⟩,
    ⟨some 33, Op.extract (Operand.tmp 30) 0, none⟩,
    ⟨some 34, Op.extract (Operand.tmp 30) 1, none⟩,
    ⟨some 8, Op.alloc 86, none⟩,
    ⟨none, Op.store 86 (Operand.tmp 8) (Operand.tmp 33), none⟩,
    ⟨some 9, Op.assign (Operand.tmp 34), none⟩])
  (.seq (.ops [⟨some 35, Op.move (Operand.tmp 1), none⟩,
    ⟨some 10, Op.assign (Operand.tmp 35), none⟩])
  (.seq (.seq (.ops [⟨some 36, Op.move (Operand.tmp 6), none⟩,
    ⟨some 37, Op.move (Operand.const (Value.int IntKind.i64 0)), none⟩])
  (.block 1 (.loop ir13_l0)))
  ir13_w)))))))
theorem ir13_c_eq : ir13 = ir13_c := rfl
theorem LgX.keep (hl : LgX h N lp bd fr ct G) (hn : h.n ≤ g.n) (hk : ∀ k, k < h.n → N k → g.get k = h.get k) : LgX g N lp bd fr ct G := by
  obtain ⟨ha, hlt, hNl⟩ := hl
  obtain ⟨c, v11, rv, vs, hl⟩ := ha
  exact ⟨LogAt.head ⟨c, v11, rv, vs, hl⟩ hl.l1 (fun k hk' => hk k (hlt k hk'.1) hk'.1) (fun k c' h1 h2 => hk k (hlt k h2) h2) ((hk lp (hlt lp hNl) hNl).trans hl.l1) hl.l2 hl.l3 hl.k3 hl.k10 fun _ _ _ => rfl, fun k hk' => Nat.lt_of_lt_of_le (hlt k hk') hn, hNl⟩
structure TailQ (g g' : Heap) (lp : Nat) (N : Set') : Prop where
  n : g.n ≤ g'.n
  k : ∀ k, k < g.n → k ≠ lp → ¬ (N k ∧ ∃ c, g.get k = some (.cells c 22)) → g'.get k = g.get k
set_option maxHeartbeats 8000000 in
theorem app_tail {Q : Ex → Fr → Heap → Prop} {g : Heap} {n : Nat} {S : Set'} {v : V} {l : List V} {tr : Tr V} (hR : ∀ b, R b) (hW : ∀ k, N k ∨ g.n ≤ k → W k) (hl : LgX g N lp bd fr ct G)
    (t0 : tr.get 0 = some (.ptr (some (lp, 0)))) (t6 : tr.get 6 = some (.int .i64 (n : Int))) (t1 : tr.get 1 = some v)
    (hv : LR g S v l) (hS : ∀ k, S k → ¬ N k) (hby : Byt l) (hll : l.length ≤ 1000000) (hn : n ≤ 1000000) (hat : G.at' ≤ 1000000) (hnx : G.nx < 9223372036854775807) (hrs : G.rs.length ≤ 1000000)
    (hk : ∀ tr g', tr.get 4 = some (.int .i64 (G.nx : Int)) → tr.get 5 = some (.int .i64 0) → TailQ g g' lp N → (∃ N', LgX g' N' lp bd fr ct { G with at' := G.at' + n, nx := G.nx + 1, rs := G.rs ++ [l] } ∧ ∀ k, N' k → N k ∨ g.n ≤ k) → Q .ret ⟨⟨116, tr⟩, []⟩ g') :
    GO (Try.prog : MP) R W none Q [.code ir13_w] ⟨⟨116, tr⟩, []⟩ g := by
  obtain ⟨⟨c, v11, rv, vs, hl⟩, hlt, hNl⟩ := hl
  have l1 := hl.l1
  have l2 := hl.l2
  have l3 := hl.l3
  have k9 := hl.k9
  have k8 := hl.k8
  have k12 := hl.k12
  have hlp := Heap.lt_of_get l1
  have ra := hR lp
  have wl := hW lp (.inl hNl)
  have hone := hl.vd.lr.one
  have e1 : (G.at' : Int) + (n : Int) = ((G.at' + n : Nat) : Int) := by omega
  have e2 : IntKind.u64.wrap ((G.nx : Int) + 1) = ((G.nx + 1 : Nat) : Int) := by rw [show (G.nx : Int) + 1 = ((G.nx + 1 : Nat) : Int) by omega]; exact wrap64 (by omega)
  have e3 : ((G.nx + 1 : Nat) : Int) - 1 = (G.nx : Int) := by omega
  have e4 : IntKind.u64.wrap (G.nx : Int) = (G.nx : Int) := wrap64 (by omega)
  have e5 : IntKind.i64.wrap (G.nx : Int) = (G.nx : Int) := by rw [IntWalk.i64_in] <;> omega
  simp -implicitDefEqProofs (disch := (first | omega | (simp -implicitDefEqProofs only [szs, ne_eq] <;> omega) | fail)) only [go_sem, seval, ↓reduceIte, reduceCtorEq, ir13_w, undefV, t0, t1, t6, l1, l2, l3, k8, k9, k12, ra, wl, e1, e2, ↓hone]
  obtain ⟨c2, ec2⟩ : ∃ c2, c2 = (c.set 9 (.int .i64 ((G.at' + n : Nat) : Int))).set 8 (.int .u64 ((G.nx + 1 : Nat) : Int)) := ⟨_, rfl⟩
  have d2 : c2.size = 13 := by rw [ec2]; simp only [Blk.size_set]; exact l2
  have d3 : c2.ro = false := by rw [ec2]; simp only [Blk.ro_set]; exact l3
  have d8 : c2.get 8 = .int .u64 ((G.nx + 1 : Nat) : Int) := by rw [ec2]; simp -implicitDefEqProofs (disch := (first | omega | (simp -implicitDefEqProofs only [szs, ne_eq] <;> omega) | fail)) only [go_sem, seval, ↓reduceIte, reduceCtorEq]
  have d9 : c2.get 9 = .int .i64 ((G.at' + n : Nat) : Int) := by rw [ec2]; simp -implicitDefEqProofs (disch := (first | omega | (simp -implicitDefEqProofs only [szs, ne_eq] <;> omega) | fail)) only [go_sem, seval, ↓reduceIte, reduceCtorEq]
  have dj : ∀ j, j ≠ 8 → j ≠ 9 → c2.get j = c.get j := fun j h1 h2 => by rw [ec2, Blk.get_set, if_neg h1, Blk.get_set, if_neg h2]
  have d35 : c2.gets 3 5 = G.H.v := by rw [ec2, gets_out (by omega), gets_out (by omega)]; exact hl.k3
  rw [← ec2]
  clear ec2
  obtain ⟨g1, eg1⟩ : ∃ g1, g1 = (g.set lp (O.cells (c.set 9 (V.int IntKind.i64 ((G.at' + n : Nat) : Int))) 47)).set lp (O.cells c2 47) := ⟨_, rfl⟩
  rw [← eg1]
  have n1 : g1.n = g.n := by rw [eg1]; simp only [Heap.n_set]
  have L1 : g1.get lp = some (.cells c2 47) := by rw [eg1]; exact w_set_eq (by simp only [Heap.n_set]; exact hlp) rfl _
  have k1 : ∀ k, k ≠ lp → g1.get k = g.get k := fun k hk => by rw [eg1, w_set_ne (by simp only [Heap.n_set]; exact hlp) hk, w_set_ne hlp hk]
  clear eg1
  have hv1 : LR g1 S v l := hv.same fun b hb _ => k1 b fun e => hS b hb (e ▸ hNl)
  refine GCallD.of (SF.foot (clone42 (R := allR) (W := noW) hv1 (fun _ => trivial) hll hby.allOne).kept (fun _ h => h) (fun _ h => h)) ?_
  rintro r1 g2 ⟨⟨o1, kk2⟩, vf⟩
  have n2 := vf.n
  have L2 := (kk2 lp (by omega)).trans L1
  have hro := o1.lr.one
  have vd2 : Own 0 g2 rv vs 22 := hl.vd.keep fun b c' hb => by
    rw [kk2 b (by have := Heap.lt_of_get hb; omega), k1 b fun e => by rw [e, l1] at hb; cases hb]; exact hb
  obtain ⟨v', g3, rr, ww, hap, ho3, n3, kk3, hw3, hs3⟩ := app_rec (N := N) vd2 hl.vn hro (by rw [hl.vl]; exact hrs) (by omega)
  have h3o := ho3.lr.one
  have h3c := ho3.lr.cells
  have hr1c := o1.lr.cells
  have nlw : ∀ k, k < g2.n → (∀ c', g2.get k ≠ some (.cells c' 22)) → g3.get k = g2.get k := fun k h1 h2 => kk3 k h1 fun h4 => by
    obtain ⟨_, c', h5⟩ := hw3 k h4; exact h2 c' h5
  have L3 := (nlw lp (by omega) (fun c' e => by rw [L2] at e; cases e)).trans L2
  have hl3 := Heap.lt_of_get L3
  have q3 : allB R rr := allB_of fun b _ => hR b
  have q4 : allB W ww := allB_of fun b hb => hW b (.inl (hw3 b hb).1)
  simp -implicitDefEqProofs (disch := (first | omega | (simp -implicitDefEqProofs only [szs, ne_eq] <;> omega) | fail)) only [go_sem, seval, ↓reduceIte, reduceCtorEq, undefV, t0, t1, t6, appendV_of ap_45, hap, ↓hro, ↓hr1c, ↓h3o, ↓h3c, L3, d2, d3, d8, wl, q3, q4, e3, e4, e5, cv42_2, c42_2]
  have k4 : ∀ k, k ≠ lp → (g3.set lp (O.cells (c2.set 12 v') 47)).get k = g3.get k := fun k hk => w_set_ne hl3 hk _
  have n4 : g.n ≤ g3.n := by omega
  refine ⟨by (and_intros; all_goals (intro b hb hc; simp only [noW, allR, List.not_mem_nil, and_false, false_and, false_or, or_false, List.mem_singleton] at hb hc <;> omega)), ⟨fun _ => ra, fun b _ _ => hR b, fun b _ h => h.elim, fun b _ _ => hR b, fun b _ h => hW b (.inl (hw3 b h).1)⟩, ra, hk _ _ (by simp -implicitDefEqProofs (disch := (first | omega | (simp -implicitDefEqProofs only [szs, ne_eq] <;> omega) | fail)) only [go_sem, seval, ↓reduceIte, reduceCtorEq]) (by simp -implicitDefEqProofs (disch := (first | omega | (simp -implicitDefEqProofs only [szs, ne_eq] <;> omega) | fail)) only [go_sem, seval, ↓reduceIte, reduceCtorEq]) ⟨by rw [Heap.n_set]; exact n4, fun k h1 h2 h3 => ?_⟩ ⟨fun k => N k ∨ (g.n ≤ k ∧ k < g3.n), ⟨⟨c2.set 12 v', v11, v', vs ++ [r1], w_set_eq hl3 rfl _, by simp only [Blk.size_set]; exact d2, by simp only [Blk.ro_set]; exact d3, ?_, ?_, ?_, ?_, ?_, ?_, ?_, ?_, ?_, ?_, ?_, ?_, ?_, ?_⟩, fun k hk => ?_, .inl hNl⟩, fun k hk => hk.imp id fun h => h.1⟩⟩
  · have h4 := k1 k h2
    have h5 := kk2 k (by omega)
    rw [k4 k h2, kk3 k (by omega) fun h6 => ?_, h5, h4]
    obtain ⟨h7, c', h8⟩ := hw3 k h6
    rw [h5, h4] at h8
    exact h3 ⟨h7, c', h8⟩
  · rw [Blk.get_set, if_neg (by omega), dj 0 (by omega) (by omega)]; exact hl.k0
  · rw [Blk.get_set, if_neg (by omega), dj 1 (by omega) (by omega)]; exact hl.k1
  · rw [Blk.get_set, if_neg (by omega), dj 2 (by omega) (by omega)]; exact hl.k2
  · rw [gets_out (by omega)]; exact d35
  · rw [Blk.get_set, if_neg (by omega)]; exact d8
  · rw [Blk.get_set, if_neg (by omega)]; exact d9
  · rw [Blk.get_set, if_neg (by omega), dj 10 (by omega) (by omega)]; exact hl.k10
  · rw [Blk.get_set, if_neg (by omega), dj 11 (by omega) (by omega)]; exact hl.k11
  · rw [Blk.get_set, if_pos rfl]
  · have hz : ∀ b, N5 g N b → (g3.set lp (O.cells (c2.set 12 v') 47)).get b = g.get b := fun b hb => by
      obtain ⟨h1, c', h2⟩ := hb
      have h3 : b ≠ lp := fun e => by rw [e, l1] at h2; cases h2
      have h4 := Heap.lt_of_get h2
      have h5 := (kk2 b (by omega)).trans ((k1 b h3).trans h2)
      rw [k4 b h3, nlw b (by omega) (fun c'' e => by rw [h5] at e; cases e), h5, h2]
    exact (hl.sd.same fun b hb _ => hz b hb).mono fun b _ hb => ⟨.inl hb.1, by obtain ⟨c', h2⟩ := hb.2; exact ⟨c', (hz b hb).trans h2⟩⟩
  · exact ho3.keep fun b c' hb => by rw [k4 b fun e => by rw [e, L3] at hb; cases hb]; exact hb
  · right
    have h5 := ho3.sblk_lt (by omega)
    rcases hs3 with h1 | h1
    · exact .inl h1
    · exact .inr ⟨by omega, h5⟩
  · simp [hl.vl]
  · intro i l' hi
    have hz : ∀ b, (∃ c, g2.get b = some (.cells c 5)) → (g3.set lp (O.cells (c2.set 12 v') 47)).get b = g2.get b := fun b hb => by
      obtain ⟨c', h2⟩ := hb
      have h3 : b ≠ lp := fun e => by rw [e, L2] at h2; cases h2
      rw [k4 b h3, nlw b (Heap.lt_of_get h2) (fun c'' e => by rw [h2] at e; cases e)]
    by_cases hi2 : i < G.rs.length
    · rw [List.getElem?_append_left hi2] at hi
      have e : (vs ++ [r1]).getD i undefV = vs.getD i undefV := by
        rw [List.getD_eq_getElem?_getD, List.getD_eq_getElem?_getD, List.getElem?_append_left (by rw [hl.vl]; exact hi2)]
      rw [e]
      have hg : ∀ b, N5 g N b → g2.get b = g.get b := fun b hb => by
        obtain ⟨h1, c', h2⟩ := hb
        have h3 : b ≠ lp := fun e => by rw [e, l1] at h2; cases h2
        rw [kk2 b (by have := Heap.lt_of_get h2; omega), k1 b h3]
      have hz2 : ∀ b, N5 g N b → (g3.set lp (O.cells (c2.set 12 v') 47)).get b = g.get b := fun b hb => by
        rw [hz b (by obtain ⟨c', h2⟩ := hb.2; exact ⟨c', (hg b hb).trans h2⟩), hg b hb]
      exact ((hl.ve i l' hi).same fun b hb _ => hz2 b hb).mono fun b _ hb => ⟨.inl hb.1, by obtain ⟨c', h2⟩ := hb.2; exact ⟨c', (hz2 b hb).trans h2⟩⟩
    · rw [List.getElem?_append_right (by omega)] at hi
      have hi3 : i = G.rs.length := by
        have := (List.getElem?_eq_some_iff.1 hi).1
        simp at this; omega
      subst hi3
      rw [Nat.sub_self] at hi
      cases hi
      have e : (vs ++ [r1]).getD G.rs.length undefV = r1 := by
        rw [List.getD_eq_getElem?_getD, List.getElem?_append_right (by rw [hl.vl]; omega), hl.vl, Nat.sub_self]; rfl
      rw [e]
      refine ((Own.lrf o1).same fun b hb _ => hz b hb.2).mono fun b hbn hb => ?_
      obtain ⟨h1, c', h2⟩ := hb
      have h3 := Heap.lt_of_get h2
      exact ⟨.inr ⟨by omega, by omega⟩, c', (hz b ⟨c', h2⟩).trans h2⟩
  · rw [Heap.n_set]
    rcases hk with h1 | h1
    · have := hlt k h1; omega
    · exact h1.2
set_option maxHeartbeats 8000000 in
theorem append_ok {S : Set'} {v : V} {l : List V} (hx : DkX h M bd D) (hl : LgX h N lp bd fr ct G) (hMN : ∀ k, N k → ¬ M k) (hc : 16 ≤ ct ∧ fr + ct ≤ D.n) (hR : ∀ b, R b) (hW : ∀ k, M k ∨ N k → W k)
    (hv : LR h S v l) (hS : ∀ k, S k → k < h.n ∧ ¬ M k ∧ ¬ N k) (hcap : capOk v) (hby : Byt l) (hll : l.length ≤ 1000000) (hha : G.H.ha < 2) (hnx : G.nx < 9223372036854775807 ∧ G.H.ep < 18446744073709551616) (hat : G.at' ≤ (ct - 2) / 2) (hrs : G.rs.length ≤ 1000000) (few : ∀ s, (D.pe s).length < 1000000000) :
    SF Try.prog 13 [.ptr (some (lp, 0)), v] h R W (AppQ h M N lp bd fr ct D G l) := by
  have hp := hx.pos
  have hl0 := hl
  obtain ⟨⟨c, v11, rv, vs, hl⟩, hlt, hNl⟩ := hl
  have l1 := hl.l1
  have l2 := hl.l2
  have l3 := hl.l3
  have k9 := hl.k9
  have k8 := hl.k8
  have k12 := hl.k12
  have hlp := Heap.lt_of_get l1
  have ra := hR lp
  have wl := hW lp (.inr hNl)
  have hR' : ∀ b, h.n ≤ b ∨ R b := fun b => .inr (hR b)
  refine SF.go hm Try.func13 ir13_eq ?_
  rw [ir13_c_eq]
  simp -implicitDefEqProofs (disch := (first | omega | (simp -implicitDefEqProofs only [szs, ne_eq] <;> omega) | fail)) only [go_sem, seval, ↓reduceIte, reduceCtorEq, ir13_c]
  refine GCall.of (lthere_ok hl0 hR') ?_
  rintro r g ⟨rfl, rfl⟩
  simp -implicitDefEqProofs (disch := (first | omega | (simp -implicitDefEqProofs only [szs, ne_eq] <;> omega) | fail)) only [go_sem, seval, ↓reduceIte, reduceCtorEq, undefV]
  refine GCall.of (parts_ok hv (by omega)) ?_
  rintro r g ⟨rfl, rfl⟩
  by_cases h6 : 6912 < l.length
  · have hpn : partsN l.length = (0, 3) := if_pos h6
    rw [hpn]
    simp -implicitDefEqProofs (disch := (first | omega | (simp -implicitDefEqProofs only [szs, ne_eq] <;> omega) | fail)) only [go_sem, seval, ↓reduceIte, reduceCtorEq, undefV]
    unfold AppQ
    rw [if_pos h6]
    exact ⟨rfl, Nat.le_refl _, fun _ _ => rfl⟩
  have hpn : partsN l.length = (max 1 ((l.length + 107) / 108), 0) := if_neg h6
  obtain ⟨n, en⟩ : ∃ n, n = max 1 ((l.length + 107) / 108) := ⟨_, rfl⟩
  rw [← en] at hpn
  rw [hpn]
  simp -implicitDefEqProofs (disch := (first | omega | (simp -implicitDefEqProofs only [szs, ne_eq] <;> omega) | fail)) only [go_sem, seval, ↓reduceIte, reduceCtorEq, undefV]
  refine GCall.of (room_ok hl0 ⟨hc.1, by omega⟩ (by omega) hR' (by omega)) ?_
  rintro r g1 ⟨rfl, n1, k1⟩
  by_cases h7 : (ct - 2) / 2 < n + G.at'
  · have i7 : (((ct - 2) / 2 : Nat) : Int) - (G.at' : Int) < (n : Int) := by omega
    simp -implicitDefEqProofs (disch := (first | omega | (simp -implicitDefEqProofs only [szs, ne_eq] <;> omega) | fail)) only [go_sem, seval, ↓reduceIte, reduceCtorEq, undefV, i7]
    unfold AppQ
    rw [if_neg h6, if_pos (by rw [hpn]; exact h7)]
    exact ⟨rfl, n1, k1⟩
  have i7 : ¬ (((ct - 2) / 2 : Nat) : Int) - (G.at' : Int) < (n : Int) := by omega
  simp -implicitDefEqProofs (disch := (first | omega | (simp -implicitDefEqProofs only [szs, ne_eq] <;> omega) | fail)) only [go_sem, seval, ↓reduceIte, reduceCtorEq, undefV, i7]
  have hl1 : LgX g1 N lp bd fr ct G := hl0.keep n1 fun k h _ => k1 k h
  have L1 := (k1 lp hlp).trans l1
  refine GCall.of (halves_ok (bd := bd) (fr := fr) (ct := ct) ⟨c, L1, l2, hl.k0, hl.k1, hl.k2⟩ ⟨by omega, by omega⟩ (by omega) hR') ?_
  rintro r g2 ⟨rfl, n2, k2⟩
  have hn2 : g.n ≤ g2.n := by omega
  simp -implicitDefEqProofs (disch := (first | omega | (simp -implicitDefEqProofs only [szs, ne_eq] <;> omega) | fail)) only [go_sem, seval, ↓reduceIte, reduceCtorEq, undefV, hn2]
  obtain ⟨g3, e3⟩ : ∃ g3, g3 = (g2.push (O.cells (Blk.of [V.int IntKind.i64 0, V.int IntKind.i64 0]) 86)).set g2.n (O.cells (((Blk.of [V.int IntKind.i64 0, V.int IntKind.i64 0]).set 0 (V.int IntKind.i64 ((fr + 2 : Nat) : Int))).set 1 (V.int IntKind.i64 ((fr + 2 + (ct - 2) / 2 : Nat) : Int))) 86) := ⟨_, rfl⟩
  rw [← e3]
  have n3 : g3.n = g2.n + 1 := by rw [e3]; simp only [Heap.n_push, Heap.n_set]
  have A3 : g3.get g2.n = some (.cells (((Blk.of [V.int IntKind.i64 0, V.int IntKind.i64 0]).set 0 (V.int IntKind.i64 ((fr + 2 : Nat) : Int))).set 1 (V.int IntKind.i64 ((fr + 2 + (ct - 2) / 2 : Nat) : Int))) 86) := by rw [e3]; exact w_set_eq (by simp only [Heap.n_push]; omega) rfl _
  have k3 : ∀ k, k < g.n → g3.get k = g.get k := fun k hk => by rw [e3, w_set_ne (by simp only [Heap.n_push]; omega) (by omega), w_push_ne (by omega), k2 k (by omega), k1 k hk]
  clear e3
  have hlM : ∀ k, M k → k < g.n := fun k hk => hx.lt k hk
  refine app_loop (M := M) (N := N) (S := S) (bb := g2.n) (l := l) hR' (fun k hk => hk.elim (fun h => .inr (hW k (.inl h))) fun h => .inl (by omega)) (hx.old (by omega) k3) (hl0.keep (by omega) fun k h _ => k3 k h) hMN (by simp -implicitDefEqProofs (disch := (first | omega | (simp -implicitDefEqProofs only [szs, ne_eq] <;> omega) | fail)) only [go_sem, seval, ↓reduceIte, reduceCtorEq]) (by simp -implicitDefEqProofs (disch := (first | omega | (simp -implicitDefEqProofs only [szs, ne_eq] <;> omega) | fail)) only [go_sem, seval, ↓reduceIte, reduceCtorEq]) (by simp -implicitDefEqProofs (disch := (first | omega | (simp -implicitDefEqProofs only [szs, ne_eq] <;> omega) | fail)) only [go_sem, seval, ↓reduceIte, reduceCtorEq]) (by simp -implicitDefEqProofs (disch := (first | omega | (simp -implicitDefEqProofs only [szs, ne_eq] <;> omega) | fail)) only [go_sem, seval, ↓reduceIte, reduceCtorEq]) (by simp -implicitDefEqProofs (disch := (first | omega | (simp -implicitDefEqProofs only [szs, ne_eq] <;> omega) | fail)) only [go_sem, seval, ↓reduceIte, reduceCtorEq]) (by simp -implicitDefEqProofs (disch := (first | omega | (simp -implicitDefEqProofs only [szs, ne_eq] <;> omega) | fail)) only [go_sem, seval, ↓reduceIte, reduceCtorEq]) (by simp -implicitDefEqProofs (disch := (first | omega | (simp -implicitDefEqProofs only [szs, ne_eq] <;> omega) | fail)) only [go_sem, seval, ↓reduceIte, reduceCtorEq]) A3 rfl (by simp -implicitDefEqProofs (disch := (first | omega | (simp -implicitDefEqProofs only [szs, ne_eq] <;> omega) | fail)) only [go_sem, seval, ↓reduceIte, reduceCtorEq]) (by simp -implicitDefEqProofs (disch := (first | omega | (simp -implicitDefEqProofs only [szs, ne_eq] <;> omega) | fail)) only [go_sem, seval, ↓reduceIte, reduceCtorEq]) (fun h => by have := hlM _ h; omega) (hv.old k3) (fun k hk => ⟨by have := (hS k hk).1; omega, (hS k hk).2.1⟩) hcap hby hc (by omega) hha (by omega) en (by omega) ⟨by omega, hnx.2⟩ few fun tr5 g5 M5 t0 t1 t6 n5 k5 hx5 hM5 => ?_
  simp -implicitDefEqProofs (disch := (first | omega | (simp -implicitDefEqProofs only [szs, ne_eq] <;> omega) | fail)) only [go_sem, seval, ↓reduceIte, reduceCtorEq]
  have hl5 : LgX g5 N lp bd fr ct G := hl0.keep (by omega) fun k h1 h2 => by rw [k5 k (by omega) (hMN k h2), k3 k h1]
  refine app_tail (N := N) (S := S) hR' (fun k hk => hk.elim (fun h => .inr (hW k (.inr h))) fun h => .inl (by omega)) hl5 t0 t6 t1 (hv.same fun b hb hbn => by rw [k5 b (by omega) (hS b hb).2.1, k3 b hbn]) (fun k hk => (hS k hk).2.2) hby hll (by omega) (by omega) hnx.1 hrs fun tr6 g6 q4 q5 q6 q7 => ?_
  obtain ⟨N', hl6, hN'⟩ := q7
  simp -implicitDefEqProofs (disch := (first | omega | (simp -implicitDefEqProofs only [szs, ne_eq] <;> omega) | fail)) only [go_sem, seval, ↓reduceIte, reduceCtorEq, q4, q5]
  unfold AppQ
  rw [if_neg h6, if_neg (by rw [hpn]; exact h7), hpn]
  have hltN := hl0.lt
  have nM5 : ∀ k, M5 k → ¬ N k := fun k h1 h2 => (hM5 k h1).elim (hMN k h2) fun h3 => by have := hltN k h2; omega
  refine ⟨rfl, by have := q6.n; omega, fun k h1 h2 h3 => ?_, M5, N', hx5.same q6.n fun k hk => ?_, hl6, fun k hk => (hM5 k hk).imp id fun h => by omega, fun k hk => (hN' k hk).imp id fun h => by omega, fun k hk h1 => (hN' k hk).elim (nM5 k h1) fun h => by have := hx5.lt k h1; omega⟩
  · rw [q6.k k (by omega) (fun e => h3 (e ▸ hNl)) (fun h4 => h3 h4.1), k5 k (by omega) h2, k3 k h1]
  · exact q6.k k (hx5.lt k hk) (fun e => nM5 k hk (e ▸ hNl)) (fun h4 => nM5 k hk h4.1)
end Go.Proofs.Ytakgjjbmniilhaa
