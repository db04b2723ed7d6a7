/- The log: a round of load. -/
import Derived.Test.YtakgjjbmniilhaaGE
set_option linter.unusedVariables false
set_option linter.unusedSimpArgs false
set_option linter.unusedSimpArgs false
set_option maxRecDepth 100000
set_option linter.unusedVariables false
set_option linter.unusedSimpArgs false
namespace Go.Proofs.Ytakgjjbmniilhaa
open Go Go.Vm
attribute [-go_sem] sz_101
variable {h g : Heap} {R W M : Set'} {bd lp fr ct : Nat} {D : DS}
theorem ap_45 : apT Try.prog 45 45 = some (22, 1, 24) := by kernel_rfl
theorem appE_w {e sz by' : Nat} {v x : V} {p : Pr} (hq : appE e sz by' v x g = some p) : ∀ b ∈ p.w, b = sblk v := by
  unfold appE at hq
  split at hq
  · rename_i base sLen sCap ex n hn
    split at hq
    · split at hq
      · split at hq
        · unfold appendIn at hq
          split at hq
          · cases hq; intro b hb; cases hb
          · split at hq
            · split at hq
              · split at hq
                · split at hq
                  · cases hq; intro b hb; simpa [sblk] using hb
                  · cases hq
                · cases hq
              · cases hq
            · cases hq
        · split at hq
          · split at hq
            · split at hq
              · split at hq
                · unfold appendOut at hq
                  split at hq
                  · split at hq
                    · split at hq
                      · split at hq
                        · split at hq
                          · split at hq
                            · cases hq; intro b hb; simpa [sblk] using hb
                            · cases hq
                          · cases hq
                        · cases hq
                      · cases hq
                    · cases hq
                  · cases hq; intro b hb; cases hb
                · cases hq
              · cases hq
            · cases hq
          · cases hq
      · cases hq
    · cases hq
  · split at hq
    · cases hq; intro b hb; cases hb
    · cases hq
  · cases hq
noncomputable def ir35_b0_t3 : LC := (.seq (.ops [⟨some 140, Op.fieldAddr 90 (Operand.tmp 11) 2, none⟩,
    ⟨some 141, Op.load 5 (Operand.tmp 140), none⟩,
    ⟨some 142, Op.binOp BinOp.gtr 5 (Operand.tmp 141) (Operand.const (Value.int IntKind.u8 0)) 5, none⟩,
    ⟨some 143, Op.move (Operand.tmp 142), none⟩,
    ⟨some 144, Op.fieldAddr 90 (Operand.tmp 11) 1, some (143, true)⟩,
    ⟨some 145, Op.load 42 (Operand.tmp 144), some (143, true)⟩,
    ⟨some 146, Op.fieldAddr 90 (Operand.tmp 8) 1, some (143, true)⟩,
    ⟨some 147, Op.load 42 (Operand.tmp 146), some (143, true)⟩,
    ⟨some 148, Op.binOp BinOp.neq 42 (Operand.tmp 145) (Operand.tmp 147) 42, some (143, true)⟩,
    ⟨some 149, Op.move (Operand.tmp 148), some (143, true)⟩,
    ⟨some 150, Op.fieldAddr 90 (Operand.tmp 11) 3, some (149, false)⟩,
    ⟨some 151, Op.load 5 (Operand.tmp 150), some (149, false)⟩,
    ⟨some 152, Op.fieldAddr 90 (Operand.tmp 8) 3, some (149, false)⟩,
    ⟨some 153, Op.load 5 (Operand.tmp 152), some (149, false)⟩,
    ⟨some 154, Op.binOp BinOp.neq 5 (Operand.tmp 151) (Operand.tmp 153) 5, some (149, false)⟩,
    ⟨some 155, Op.pick (Operand.tmp 149) (Operand.const (Value.bool true)) (Operand.tmp 154), some (143, true)⟩,
    ⟨some 156, Op.pick (Operand.tmp 143) (Operand.tmp 155) (Operand.const (Value.bool false)), none⟩,
    ⟨some 139, Op.assign (Operand.tmp 156), none⟩])
  (.cond (Operand.tmp 139)
  (.exit 2)
  .skip))
noncomputable def ir35_b0_t2 : LC := (.seq (.draw [⟨some 119, Op.fieldAddr 90 (Operand.tmp 11) 2, none⟩,
    ⟨some 120, Op.load 5 (Operand.tmp 119), none⟩,
    ⟨some 121, Op.binOp BinOp.eql 5 (Operand.tmp 120) (Operand.const (Value.int IntKind.u8 0)) 5, none⟩,
    ⟨some 122, Op.move (Operand.tmp 121), none⟩,
    ⟨some 123, Op.fieldAddr 90 (Operand.tmp 11) 1, some (122, true)⟩,
    ⟨some 124, Op.load 42 (Operand.tmp 123), some (122, true)⟩,
    ⟨some 125, Op.fieldAddr 90 (Operand.tmp 8) 1, some (122, true)⟩,
    ⟨some 126, Op.load 42 (Operand.tmp 125), some (122, true)⟩,
    ⟨some 127, Op.binOp BinOp.lss 42 (Operand.tmp 124) (Operand.tmp 126) 42, some (122, true)⟩,
    ⟨some 128, Op.move (Operand.tmp 127), some (122, true)⟩,
    ⟨some 129, Op.fieldAddr 90 (Operand.tmp 11) 1, some (128, false)⟩,
    ⟨some 130, Op.load 42 (Operand.tmp 129), some (128, false)⟩,
    ⟨some 131, Op.load 32 (Operand.tmp 1), some (128, false)⟩,
    ⟨some 132, Op.nilCheck (Operand.tmp 131), some (128, false)⟩,
    ⟨some 133, Op.fieldAddr 47 (Operand.tmp 132) 3, some (128, false)⟩,
    ⟨some 134, Op.fieldAddr 44 (Operand.tmp 133) 0, some (128, false)⟩,
    ⟨some 135, Op.load 42 (Operand.tmp 134), some (128, false)⟩,
    ⟨some 136, Op.binOp BinOp.gtr 42 (Operand.tmp 130) (Operand.tmp 135) 42, some (128, false)⟩,
    ⟨some 137, Op.pick (Operand.tmp 128) (Operand.const (Value.bool true)) (Operand.tmp 136), some (122, true)⟩,
    ⟨some 138, Op.pick (Operand.tmp 122) (Operand.tmp 137) (Operand.const (Value.bool false)), none⟩,
    ⟨some 118, Op.assign (Operand.tmp 138), none⟩] [])
  (.cond (Operand.tmp 118)
  (.exit 2)
  ir35_b0_t3))
noncomputable def ir35_b0_t1 : LC := (.seq (.ops [⟨some 106, Op.fieldAddr 90 (Operand.tmp 11) 0, none⟩,
    ⟨some 107, Op.load 42 (Operand.tmp 106), none⟩,
    ⟨some 108, Op.fieldAddr 90 (Operand.tmp 8) 0, none⟩,
    ⟨some 109, Op.load 42 (Operand.tmp 108), none⟩,
    ⟨some 110, Op.binOp BinOp.neq 42 (Operand.tmp 107) (Operand.tmp 109) 42, none⟩,
    ⟨some 111, Op.move (Operand.tmp 110), none⟩,
    ⟨some 112, Op.fieldAddr 90 (Operand.tmp 11) 2, some (111, false)⟩,
    ⟨some 113, Op.load 5 (Operand.tmp 112), some (111, false)⟩,
    ⟨some 114, Op.fieldAddr 90 (Operand.tmp 8) 2, some (111, false)⟩,
    ⟨some 115, Op.load 5 (Operand.tmp 114), some (111, false)⟩,
    ⟨some 116, Op.binOp BinOp.neq 5 (Operand.tmp 113) (Operand.tmp 115) 5, some (111, false)⟩,
    ⟨some 117, Op.pick (Operand.tmp 111) (Operand.const (Value.bool true)) (Operand.tmp 116), none⟩,
    ⟨some 105, Op.assign (Operand.tmp 117), none⟩])
  (.cond (Operand.tmp 105)
  (.exit 2)
  ir35_b0_t2))
noncomputable def ir35_b0_f2 : LC := (.seq (.draw [⟨some 177, Op.load 32 (Operand.tmp 1), none⟩,
    ⟨some 178, Op.load 32 (Operand.tmp 1), none⟩,
    ⟨some 179, Op.nilCheck (Operand.tmp 178), none⟩,
    ⟨some 180, Op.fieldAddr 47 (Operand.tmp 179) 8, none⟩,
    ⟨some 181, Op.load 45 (Operand.tmp 180), none⟩,
    ⟨some 182, Op.load 22 (Operand.tmp 9), none⟩,
    ⟨some 183, Op.buildSlice 45 1 #[(0, Operand.tmp 182)], none⟩,
    ⟨some 184, Op.call { callee := Callee.builtin Builtin.append, args := #[Operand.tmp 181, Operand.tmp 183], argTypes := #[45, 45] }, none⟩,
    ⟨some 185, Op.nilCheck (Operand.tmp 177), none⟩,
    ⟨some 186, Op.fieldAddr 47 (Operand.tmp 185) 8, none⟩,
    ⟨none, Op.store 45 (Operand.tmp 186) (Operand.tmp 184), none⟩] [(0, 6), (1, 6), (2, 6), (3, 6), (4, 6), (0, 7)])
  (.seq (.draw [⟨some 187, Op.load 32 (Operand.tmp 1), none⟩,
    ⟨some 188, Op.load 32 (Operand.tmp 1), none⟩,
    ⟨some 189, Op.load 32 (Operand.tmp 1), none⟩,
    ⟨some 190, Op.nilCheck (Operand.tmp 189), none⟩,
    ⟨some 191, Op.fieldAddr 47 (Operand.tmp 190) 5, none⟩,
    ⟨some 192, Op.load 3 (Operand.tmp 191), none⟩,
    ⟨some 193, Op.load 3 (Operand.tmp 10), none⟩,
    ⟨some 194, Op.binOp BinOp.add 3 (Operand.tmp 192) (Operand.tmp 193) 3, none⟩,
    ⟨some 195, Op.load 32 (Operand.tmp 1), none⟩,
    ⟨some 196, Op.nilCheck (Operand.tmp 195), none⟩,
    ⟨some 197, Op.fieldAddr 47 (Operand.tmp 196) 4, none⟩,
    ⟨some 198, Op.load 42 (Operand.tmp 197), none⟩,
    ⟨some 199, Op.binOp BinOp.add 42 (Operand.tmp 198) (Operand.const (Value.int IntKind.u64 1)) 42, none⟩,
    ⟨some 200, Op.nilCheck (Operand.tmp 187), none⟩,
    ⟨some 201, Op.fieldAddr 47 (Operand.tmp 200) 5, none⟩,
    ⟨none, Op.store 3 (Operand.tmp 201) (Operand.tmp 194), none⟩,
    ⟨some 202, Op.nilCheck (Operand.tmp 188), none⟩,
    ⟨some 203, Op.fieldAddr 47 (Operand.tmp 202) 4, none⟩,
    ⟨none, Op.store 42 (Operand.tmp 203) (Operand.tmp 199), none⟩] [(1, 15), (12, 15)])
  (.seq (.draw [⟨some 204, Op.load 32 (Operand.tmp 1), none⟩,
    ⟨some 205, Op.nilCheck (Operand.tmp 204), none⟩,
    ⟨some 206, Op.fieldAddr 47 (Operand.tmp 205) 4, none⟩,
    ⟨some 207, Op.load 42 (Operand.tmp 206), none⟩,
    ⟨some 208, Op.fieldAddr 90 (Operand.tmp 11) 1, none⟩,
    ⟨some 209, Op.load 42 (Operand.tmp 208), none⟩,
    ⟨some 210, Op.build 90 #[(0, Operand.tmp 207), (1, Operand.tmp 209)], none⟩,
    ⟨none, Op.store 90 (Operand.tmp 8) (Operand.tmp 210), none⟩] [])
  (.ops [⟨none, Op.store 22 (Operand.tmp 9) (Operand.const (Value.slice none 0 0)), none⟩,
    ⟨none, Op.store 3 (Operand.tmp 10) (Operand.const (Value.int IntKind.i64 0)), none⟩]))))
noncomputable def ir35_b0_f1 : LC := (.seq (.ops [⟨some 157, Op.load 22 (Operand.tmp 9), none⟩,
    ⟨some 158, Op.move (Operand.tmp 12), none⟩,
    ⟨some 159, Op.call { callee := Callee.builtin Builtin.append, args := #[Operand.tmp 157, Operand.tmp 158], argTypes := #[22, 22] }, none⟩,
    ⟨none, Op.store 22 (Operand.tmp 9) (Operand.tmp 159), none⟩])
  (.seq (.ops [⟨some 160, Op.load 3 (Operand.tmp 10), none⟩,
    ⟨some 161, Op.binOp BinOp.add 3 (Operand.tmp 160) (Operand.const (Value.int IntKind.i64 1)) 3, none⟩,
    ⟨none, Op.store 3 (Operand.tmp 10) (Operand.tmp 161), none⟩])
  (.seq (.ops [⟨some 162, Op.fieldAddr 90 (Operand.tmp 11) 0, none⟩,
    ⟨some 163, Op.load 42 (Operand.tmp 162), none⟩,
    ⟨some 164, Op.fieldAddr 90 (Operand.tmp 11) 1, none⟩,
    ⟨some 165, Op.load 42 (Operand.tmp 164), none⟩,
    ⟨some 166, Op.fieldAddr 90 (Operand.tmp 11) 2, none⟩,
    ⟨some 167, Op.load 5 (Operand.tmp 166), none⟩,
    ⟨some 168, Op.binOp BinOp.add 5 (Operand.tmp 167) (Operand.const (Value.int IntKind.u8 1)) 5, none⟩,
    ⟨some 169, Op.fieldAddr 90 (Operand.tmp 11) 3, none⟩,
    ⟨some 170, Op.load 5 (Operand.tmp 169), none⟩,
    ⟨some 171, Op.build 90 #[(0, Operand.tmp 163), (1, Operand.tmp 165), (2, Operand.tmp 168), (3, Operand.tmp 170)], none⟩,
    ⟨none, Op.store 90 (Operand.tmp 8) (Operand.tmp 171), none⟩])
  (.seq (.ops [⟨some 172, Op.fieldAddr 90 (Operand.tmp 8) 2, none⟩,
    ⟨some 173, Op.load 5 (Operand.tmp 172), none⟩,
    ⟨some 174, Op.fieldAddr 90 (Operand.tmp 8) 3, none⟩,
    ⟨some 175, Op.load 5 (Operand.tmp 174), none⟩,
    ⟨some 176, Op.binOp BinOp.eql 5 (Operand.tmp 173) (Operand.tmp 175) 5, none⟩])
  (.cond (Operand.tmp 176)
  ir35_b0_f2
  .skip)))))
noncomputable def ir35_b0_c : LC := (.block 3 (.seq (.block 4 ir35_b0_t1)
  ir35_b0_f1))
theorem ir35_b0_c_eq : ir35_b0 = ir35_b0_c := rfl
structure LdR (g : Heap) (lp bd fr ct bw n0 : Nat) (v10 v11 : V) (H : Hd) (s : LS) (c cw cr cn : Blk) (rv v : V) (vs : List V) : Prop where
  l1 : g.get lp = some (.cells c 47)
  l2 : c.size = 13
  l3 : c.ro = false
  k0 : c.get 0 = .ptr (some (bd, 0))
  k1 : c.get 1 = .int .i64 (fr : Int)
  k2 : c.get 2 = .int .i64 (ct : Int)
  k3 : c.gets 3 5 = H.v
  k8 : c.get 8 = .int .u64 (s.nx : Int)
  k9 : c.get 9 = .int .i64 (s.at' : Int)
  k10 : c.get 10 = v10
  k11 : c.get 11 = v11
  k12 : c.get 12 = rv
  w1 : g.get bw = some (.cells cw 90)
  w2 : cw.size = 4
  w3 : cw.ro = false
  a0 : cw.get 0 = .int .u64 (s.wn : Int)
  a1 : cw.get 1 = .int .u64 (s.we : Int)
  a2 : cw.get 2 = .int .u8 (s.wp : Int)
  a3 : cw.get 3 = .int .u8 (s.wo : Int)
  r1 : g.get (bw + 1) = some (.cells cr 22)
  r2 : cr.size = 1
  r3 : cr.ro = false
  r4 : cr.get 0 = v
  rd : Own n0 g v s.rc 5
  n1 : g.get (bw + 2) = some (.cells cn 3)
  n2 : cn.size = 1
  n3 : cn.ro = false
  n4 : cn.get 0 = .int .i64 (s.cn : Int)
  vd : Own n0 g rv vs 22
  vl : vs.length = s.rs.length
  ve : ∀ i l, s.rs[i]? = some l → LR g (fun b => n0 ≤ b ∧ b ≠ sblk v ∧ ∃ c, g.get b = some (.cells c 5)) (vs.getD i undefV) l
def LdM (g : Heap) (lp bd fr ct bw n0 : Nat) (v10 v11 : V) (H : Hd) (s : LS) : Prop := ∃ c cw cr cn rv v vs, LdR g lp bd fr ct bw n0 v10 v11 H s c cw cr cn rv v vs
set_option maxHeartbeats 8000000 in
theorem t3_ok {Q : Ex → Fr → Heap → Prop} {t : List It} {mks : List Nat} {y bm bw xb : Nat} {cm cw cl cx : Blk} {r : Rc} {s : LS} {H : Hd} {tr : Tr V} (hR : ∀ b, R b)
    (t1 : tr.get 1 = some (.ptr (some (xb, 0)))) (t8 : tr.get 8 = some (.ptr (some (bw, 0)))) (t11 : tr.get 11 = some (.ptr (some (bm, 0))))
    (x1 : g.get xb = some (.cells cx 32)) (x2 : cx.size = 1) (x3 : cx.get 0 = .ptr (some (lp, 0)))
    (l1 : g.get lp = some (.cells cl 47)) (l2 : cl.size = 13) (l3 : cl.get 3 = .int .u64 (H.ep : Int))
    (m1 : g.get bm = some (.cells cm 90)) (m2 : cm.size = 4) (b0 : cm.get 0 = .int .u64 (r.num : Int)) (b1 : cm.get 1 = .int .u64 (r.ep : Int)) (b2 : cm.get 2 = .int .u8 (r.pl : Int)) (b3 : cm.get 3 = .int .u8 (r.of : Int))
    (w1 : g.get bw = some (.cells cw 90)) (w2 : cw.size = 4) (a0 : cw.get 0 = .int .u64 (s.wn : Int)) (a1 : cw.get 1 = .int .u64 (s.we : Int)) (a2 : cw.get 2 = .int .u8 (s.wp : Int)) (a3 : cw.get 3 = .int .u8 (s.wo : Int))
    (hbad : ((0 < r.pl ∧ (r.ep ≠ s.we ∨ r.of ≠ s.wo))) → ∀ tr', resume (⟨Try.prog, true⟩ : MP) R W (some y) Q t (.exit 2) ⟨⟨211, tr'⟩, mks⟩ g)
    (hgood : ¬ ((0 < r.pl ∧ (r.ep ≠ s.we ∨ r.of ≠ s.wo))) → ∀ tr', (∀ i, i = 1 ∨ i = 8 ∨ i = 9 ∨ i = 10 ∨ i = 11 ∨ i = 12 → tr'.get i = tr.get i) → GO (⟨Try.prog, true⟩ : MP) R W (some y) Q t ⟨⟨211, tr'⟩, mks⟩ g) :
    GO (⟨Try.prog, true⟩ : MP) R W (some y) Q (.code ir35_b0_t3 :: t) ⟨⟨211, tr⟩, mks⟩ g := by
  have ra := hR xb
  have rb := hR lp
  have rc := hR bm
  have rd := hR bw
  by_cases h3 : r.pl = 0
  · have i3 : (r.pl : Int) = 0 := by omega
    have i6 : ¬ (0 : Int) < (r.pl : Int) := by omega
    simp -implicitDefEqProofs (disch := (first | omega | (simp -implicitDefEqProofs only [szs, ne_eq] <;> omega) | fail)) only [go_sem, seval, ↓reduceIte, reduceCtorEq, ir35_b0_t3, undefV, t1, t8, t11, m1, m2, b0, b1, b2, b3, w1, w2, a0, a1, a2, a3, l1, l2, l3, x1, x2, x3, ra, rb, rc, rd, false_implies, implies_true, i3, Int.lt_irrefl]
    exact hgood (by omega) _ (by rintro i (rfl | rfl | rfl | rfl | rfl | rfl) <;> simp -implicitDefEqProofs (disch := (first | omega | (simp -implicitDefEqProofs only [szs, ne_eq] <;> omega) | fail)) only [go_sem, seval, ↓reduceIte, reduceCtorEq])
  have i6 : (0 : Int) < (r.pl : Int) := by omega
  by_cases h4 : r.ep = s.we
  rotate_left
  · have i4 : ¬ (r.ep : Int) = (s.we : Int) := by omega
    simp -implicitDefEqProofs (disch := (first | omega | (simp -implicitDefEqProofs only [szs, ne_eq] <;> omega) | fail)) only [go_sem, seval, ↓reduceIte, reduceCtorEq, ir35_b0_t3, undefV, t1, t8, t11, m1, m2, b0, b1, b2, b3, w1, w2, a0, a1, a2, a3, l1, l2, l3, x1, x2, x3, ra, rb, rc, rd, false_implies, implies_true, i4, i6]
    exact hbad (by omega) _
  have i4 : (r.ep : Int) = (s.we : Int) := by omega
  by_cases h5 : r.of = s.wo
  rotate_left
  · have i5 : ¬ (r.of : Int) = (s.wo : Int) := by omega
    simp -implicitDefEqProofs (disch := (first | omega | (simp -implicitDefEqProofs only [szs, ne_eq] <;> omega) | fail)) only [go_sem, seval, ↓reduceIte, reduceCtorEq, ir35_b0_t3, undefV, t1, t8, t11, m1, m2, b0, b1, b2, b3, w1, w2, a0, a1, a2, a3, l1, l2, l3, x1, x2, x3, ra, rb, rc, rd, false_implies, implies_true, i4, i5, i6]
    exact hbad (by omega) _
  have i5 : (r.of : Int) = (s.wo : Int) := by omega
  simp -implicitDefEqProofs (disch := (first | omega | (simp -implicitDefEqProofs only [szs, ne_eq] <;> omega) | fail)) only [go_sem, seval, ↓reduceIte, reduceCtorEq, ir35_b0_t3, undefV, t1, t8, t11, m1, m2, b0, b1, b2, b3, w1, w2, a0, a1, a2, a3, l1, l2, l3, x1, x2, x3, ra, rb, rc, rd, false_implies, implies_true, i4, i5, i6]
  exact hgood (by omega) _ (by rintro i (rfl | rfl | rfl | rfl | rfl | rfl) <;> simp -implicitDefEqProofs (disch := (first | omega | (simp -implicitDefEqProofs only [szs, ne_eq] <;> omega) | fail)) only [go_sem, seval, ↓reduceIte, reduceCtorEq])
set_option maxHeartbeats 8000000 in
theorem t2_ok {Q : Ex → Fr → Heap → Prop} {t : List It} {mks : List Nat} {y bm bw xb : Nat} {cm cw cl cx : Blk} {r : Rc} {s : LS} {H : Hd} {tr : Tr V} (hR : ∀ b, R b)
    (t1 : tr.get 1 = some (.ptr (some (xb, 0)))) (t8 : tr.get 8 = some (.ptr (some (bw, 0)))) (t11 : tr.get 11 = some (.ptr (some (bm, 0))))
    (x1 : g.get xb = some (.cells cx 32)) (x2 : cx.size = 1) (x3 : cx.get 0 = .ptr (some (lp, 0)))
    (l1 : g.get lp = some (.cells cl 47)) (l2 : cl.size = 13) (l3 : cl.get 3 = .int .u64 (H.ep : Int))
    (m1 : g.get bm = some (.cells cm 90)) (m2 : cm.size = 4) (b0 : cm.get 0 = .int .u64 (r.num : Int)) (b1 : cm.get 1 = .int .u64 (r.ep : Int)) (b2 : cm.get 2 = .int .u8 (r.pl : Int)) (b3 : cm.get 3 = .int .u8 (r.of : Int))
    (w1 : g.get bw = some (.cells cw 90)) (w2 : cw.size = 4) (a0 : cw.get 0 = .int .u64 (s.wn : Int)) (a1 : cw.get 1 = .int .u64 (s.we : Int)) (a2 : cw.get 2 = .int .u8 (s.wp : Int)) (a3 : cw.get 3 = .int .u8 (s.wo : Int))
    (hbad : ((r.pl = 0 ∧ (r.ep < s.we ∨ H.ep < r.ep)) ∨ (0 < r.pl ∧ (r.ep ≠ s.we ∨ r.of ≠ s.wo))) → ∀ tr', resume (⟨Try.prog, true⟩ : MP) R W (some y) Q t (.exit 2) ⟨⟨211, tr'⟩, mks⟩ g)
    (hgood : ¬ ((r.pl = 0 ∧ (r.ep < s.we ∨ H.ep < r.ep)) ∨ (0 < r.pl ∧ (r.ep ≠ s.we ∨ r.of ≠ s.wo))) → ∀ tr', (∀ i, i = 1 ∨ i = 8 ∨ i = 9 ∨ i = 10 ∨ i = 11 ∨ i = 12 → tr'.get i = tr.get i) → GO (⟨Try.prog, true⟩ : MP) R W (some y) Q t ⟨⟨211, tr'⟩, mks⟩ g) :
    GO (⟨Try.prog, true⟩ : MP) R W (some y) Q (.code ir35_b0_t2 :: t) ⟨⟨211, tr⟩, mks⟩ g := by
  have ra := hR xb
  have rb := hR lp
  have rc := hR bm
  have rd := hR bw
  by_cases h3 : r.pl = 0
  rotate_left
  · have i3 : ¬ (r.pl : Int) = 0 := by omega
    simp -implicitDefEqProofs (disch := (first | omega | (simp -implicitDefEqProofs only [szs, ne_eq] <;> omega) | fail)) only [go_sem, seval, ↓reduceIte, reduceCtorEq, ir35_b0_t2, undefV, t1, t8, t11, m1, m2, b0, b1, b2, b3, w1, w2, a0, a1, a2, a3, l1, l2, l3, x1, x2, x3, ra, rb, rc, rd, false_implies, implies_true, i3]
    exact t3_ok hR (by simp -implicitDefEqProofs (disch := (first | omega | (simp -implicitDefEqProofs only [szs, ne_eq] <;> omega) | fail)) only [go_sem, seval, ↓reduceIte, reduceCtorEq, t1]) (by simp -implicitDefEqProofs (disch := (first | omega | (simp -implicitDefEqProofs only [szs, ne_eq] <;> omega) | fail)) only [go_sem, seval, ↓reduceIte, reduceCtorEq, t8]) (by simp -implicitDefEqProofs (disch := (first | omega | (simp -implicitDefEqProofs only [szs, ne_eq] <;> omega) | fail)) only [go_sem, seval, ↓reduceIte, reduceCtorEq, t11]) x1 x2 x3 l1 l2 l3 m1 m2 b0 b1 b2 b3 w1 w2 a0 a1 a2 a3 (fun h tr' => hbad (by omega) tr') fun h tr' h' => hgood (by omega) tr' fun i hi => (h' i hi).trans (by rcases hi with rfl | rfl | rfl | rfl | rfl | rfl <;> simp -implicitDefEqProofs (disch := (first | omega | (simp -implicitDefEqProofs only [szs, ne_eq] <;> omega) | fail)) only [go_sem, seval, ↓reduceIte, reduceCtorEq])
  have i3 : (r.pl : Int) = 0 := by omega
  by_cases h4 : r.ep < s.we
  · have i4 : (r.ep : Int) < (s.we : Int) := by omega
    simp -implicitDefEqProofs (disch := (first | omega | (simp -implicitDefEqProofs only [szs, ne_eq] <;> omega) | fail)) only [go_sem, seval, ↓reduceIte, reduceCtorEq, ir35_b0_t2, undefV, t1, t8, t11, m1, m2, b0, b1, b2, b3, w1, w2, a0, a1, a2, a3, l1, l2, l3, x1, x2, x3, ra, rb, rc, rd, false_implies, implies_true, i3, i4]
    exact hbad (by omega) _
  have i4 : ¬ (r.ep : Int) < (s.we : Int) := by omega
  by_cases h5 : H.ep < r.ep
  · have i5 : (H.ep : Int) < (r.ep : Int) := by omega
    simp -implicitDefEqProofs (disch := (first | omega | (simp -implicitDefEqProofs only [szs, ne_eq] <;> omega) | fail)) only [go_sem, seval, ↓reduceIte, reduceCtorEq, ir35_b0_t2, undefV, t1, t8, t11, m1, m2, b0, b1, b2, b3, w1, w2, a0, a1, a2, a3, l1, l2, l3, x1, x2, x3, ra, rb, rc, rd, false_implies, implies_true, i3, i4, i5]
    exact hbad (by omega) _
  have i5 : ¬ (H.ep : Int) < (r.ep : Int) := by omega
  simp -implicitDefEqProofs (disch := (first | omega | (simp -implicitDefEqProofs only [szs, ne_eq] <;> omega) | fail)) only [go_sem, seval, ↓reduceIte, reduceCtorEq, ir35_b0_t2, undefV, t1, t8, t11, m1, m2, b0, b1, b2, b3, w1, w2, a0, a1, a2, a3, l1, l2, l3, x1, x2, x3, ra, rb, rc, rd, false_implies, implies_true, i3, i4, i5]
  exact t3_ok hR (by simp -implicitDefEqProofs (disch := (first | omega | (simp -implicitDefEqProofs only [szs, ne_eq] <;> omega) | fail)) only [go_sem, seval, ↓reduceIte, reduceCtorEq, t1]) (by simp -implicitDefEqProofs (disch := (first | omega | (simp -implicitDefEqProofs only [szs, ne_eq] <;> omega) | fail)) only [go_sem, seval, ↓reduceIte, reduceCtorEq, t8]) (by simp -implicitDefEqProofs (disch := (first | omega | (simp -implicitDefEqProofs only [szs, ne_eq] <;> omega) | fail)) only [go_sem, seval, ↓reduceIte, reduceCtorEq, t11]) x1 x2 x3 l1 l2 l3 m1 m2 b0 b1 b2 b3 w1 w2 a0 a1 a2 a3 (fun h tr' => hbad (by omega) tr') fun h tr' h' => hgood (by omega) tr' fun i hi => (h' i hi).trans (by rcases hi with rfl | rfl | rfl | rfl | rfl | rfl <;> simp -implicitDefEqProofs (disch := (first | omega | (simp -implicitDefEqProofs only [szs, ne_eq] <;> omega) | fail)) only [go_sem, seval, ↓reduceIte, reduceCtorEq])
set_option maxHeartbeats 8000000 in
theorem t1_ok {Q : Ex → Fr → Heap → Prop} {t : List It} {mks : List Nat} {y bm bw xb : Nat} {cm cw cl cx : Blk} {r : Rc} {s : LS} {H : Hd} {tr : Tr V} (hR : ∀ b, R b)
    (t1 : tr.get 1 = some (.ptr (some (xb, 0)))) (t8 : tr.get 8 = some (.ptr (some (bw, 0)))) (t11 : tr.get 11 = some (.ptr (some (bm, 0))))
    (x1 : g.get xb = some (.cells cx 32)) (x2 : cx.size = 1) (x3 : cx.get 0 = .ptr (some (lp, 0)))
    (l1 : g.get lp = some (.cells cl 47)) (l2 : cl.size = 13) (l3 : cl.get 3 = .int .u64 (H.ep : Int))
    (m1 : g.get bm = some (.cells cm 90)) (m2 : cm.size = 4) (b0 : cm.get 0 = .int .u64 (r.num : Int)) (b1 : cm.get 1 = .int .u64 (r.ep : Int)) (b2 : cm.get 2 = .int .u8 (r.pl : Int)) (b3 : cm.get 3 = .int .u8 (r.of : Int))
    (w1 : g.get bw = some (.cells cw 90)) (w2 : cw.size = 4) (a0 : cw.get 0 = .int .u64 (s.wn : Int)) (a1 : cw.get 1 = .int .u64 (s.we : Int)) (a2 : cw.get 2 = .int .u8 (s.wp : Int)) (a3 : cw.get 3 = .int .u8 (s.wo : Int))
    (hbad : badL H.ep s r → ∀ tr', resume (⟨Try.prog, true⟩ : MP) R W (some y) Q t (.exit 2) ⟨⟨211, tr'⟩, mks⟩ g)
    (hgood : ¬ badL H.ep s r → ∀ tr', (∀ i, i = 1 ∨ i = 8 ∨ i = 9 ∨ i = 10 ∨ i = 11 ∨ i = 12 → tr'.get i = tr.get i) → GO (⟨Try.prog, true⟩ : MP) R W (some y) Q t ⟨⟨211, tr'⟩, mks⟩ g) :
    GO (⟨Try.prog, true⟩ : MP) R W (some y) Q (.code ir35_b0_t1 :: t) ⟨⟨211, tr⟩, mks⟩ g := by
  have ra := hR xb
  have rb := hR lp
  have rc := hR bm
  have rd := hR bw
  by_cases h1 : r.num = s.wn
  rotate_left
  · have i1 : ¬ (r.num : Int) = (s.wn : Int) := by omega
    simp -implicitDefEqProofs (disch := (first | omega | (simp -implicitDefEqProofs only [szs, ne_eq] <;> omega) | fail)) only [go_sem, seval, ↓reduceIte, reduceCtorEq, ir35_b0_t1, undefV, t1, t8, t11, m1, m2, b0, b1, b2, b3, w1, w2, a0, a1, a2, a3, l1, l2, l3, x1, x2, x3, ra, rb, rc, rd, false_implies, implies_true, i1]
    exact hbad (.inl h1) _
  have i1 : (r.num : Int) = (s.wn : Int) := by omega
  by_cases h2 : r.pl = s.wp
  rotate_left
  · have i2 : ¬ (r.pl : Int) = (s.wp : Int) := by omega
    simp -implicitDefEqProofs (disch := (first | omega | (simp -implicitDefEqProofs only [szs, ne_eq] <;> omega) | fail)) only [go_sem, seval, ↓reduceIte, reduceCtorEq, ir35_b0_t1, undefV, t1, t8, t11, m1, m2, b0, b1, b2, b3, w1, w2, a0, a1, a2, a3, l1, l2, l3, x1, x2, x3, ra, rb, rc, rd, false_implies, implies_true, i1, i2]
    exact hbad (.inr (.inl h2)) _
  have i2 : (r.pl : Int) = (s.wp : Int) := by omega
  simp -implicitDefEqProofs (disch := (first | omega | (simp -implicitDefEqProofs only [szs, ne_eq] <;> omega) | fail)) only [go_sem, seval, ↓reduceIte, reduceCtorEq, ir35_b0_t1, undefV, t1, t8, t11, m1, m2, b0, b1, b2, b3, w1, w2, a0, a1, a2, a3, l1, l2, l3, x1, x2, x3, ra, rb, rc, rd, false_implies, implies_true, i1, i2]
  exact t2_ok hR (by simp -implicitDefEqProofs (disch := (first | omega | (simp -implicitDefEqProofs only [szs, ne_eq] <;> omega) | fail)) only [go_sem, seval, ↓reduceIte, reduceCtorEq, t1]) (by simp -implicitDefEqProofs (disch := (first | omega | (simp -implicitDefEqProofs only [szs, ne_eq] <;> omega) | fail)) only [go_sem, seval, ↓reduceIte, reduceCtorEq, t8]) (by simp -implicitDefEqProofs (disch := (first | omega | (simp -implicitDefEqProofs only [szs, ne_eq] <;> omega) | fail)) only [go_sem, seval, ↓reduceIte, reduceCtorEq, t11]) x1 x2 x3 l1 l2 l3 m1 m2 b0 b1 b2 b3 w1 w2 a0 a1 a2 a3 (fun h tr' => hbad (by unfold badL; omega) tr') fun h tr' h' => hgood (by unfold badL; omega) tr' fun i hi => (h' i hi).trans (by rcases hi with rfl | rfl | rfl | rfl | rfl | rfl <;> simp -implicitDefEqProofs (disch := (first | omega | (simp -implicitDefEqProofs only [szs, ne_eq] <;> omega) | fail)) only [go_sem, seval, ↓reduceIte, reduceCtorEq])
end Go.Proofs.Ytakgjjbmniilhaa
