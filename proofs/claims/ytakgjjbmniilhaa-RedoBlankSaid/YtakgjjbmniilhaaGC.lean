/- The log: a record's sector written and read. -/
import Derived.Test.YtakgjjbmniilhaaGB
set_option linter.unusedVariables false
set_option linter.unusedSimpArgs false
set_option linter.unusedSimpArgs false
set_option maxRecDepth 100000
set_option linter.unusedVariables false
set_option linter.unusedSimpArgs false
namespace Go.Proofs.Ytakgjjbmniilhaa
open Go Go.Vm
variable {h g : Heap} {R W : Set'}
theorem bV_lt {n : Nat} (h : n < 256) : V.int .u8 (n : Int) = bV n := by unfold bV; rw [Nat.mod_eq_of_lt h]
set_option maxHeartbeats 8000000 in
theorem part_ok {S : Set'} {v : V} {l : List V} {num ep pl of : Nat} (hp : pl < 256) (ho : of < 256) (hv : LR h S v l) (hl : l.length ≤ 108) (hb : Byt l) (hR : ∀ b, R b) : SF Try.prog 41 [.agg [.int .u64 (num : Int), .int .u64 (ep : Int), .int .u8 (pl : Int), .int .u8 (of : Int)], v] h R W fun r g => Own h.n g r (partB num ep pl of l) 5 ∧ h.n ≤ g.n ∧ ∀ k, k < h.n → g.get k = h.get k := by
  have hlen := hv.lenV Try.underlying22
  have hone := hv.one
  have hcv := hv.cells
  refine SF.go hm Try.func41 ir41_eq ?_
  simp -implicitDefEqProofs (disch := (first | omega | (simp -implicitDefEqProofs only [szs, ne_eq] <;> omega) | fail)) only [go_sem, seval, ↓reduceIte, reduceCtorEq, ir41, undefV]
  refine GCallD.of (SF.foot (big_ok (R := allR) (W := noW) (n := num) (fun _ => trivial)) (fun _ h => h) (fun _ h => h)) ?_
  rintro r1 g1 ⟨o1, n1, k1⟩
  simp only [Heap.n_push] at n1 k1 o1
  have hb1 : g1.get h.n = some (.cells (Blk.of [.int .u64 (num : Int), .int .u64 (ep : Int), .int .u8 (pl : Int), .int .u8 (of : Int)]) 90) := by rw [k1 _ (by omega)]; exact w_push_eq rfl _
  simp -implicitDefEqProofs (disch := (first | omega | (simp -implicitDefEqProofs only [szs, ne_eq] <;> omega) | fail)) only [go_sem, seval, ↓reduceIte, reduceCtorEq, undefV, hb1]
  refine GCallD.of (SF.foot (big_ok (R := allR) (W := noW) (n := ep) (fun _ => trivial)) (fun _ h => h) (fun _ h => h)) ?_
  rintro r2 g2 ⟨o2, n2, k2⟩
  have hb2 := (k2 _ (by omega)).trans hb1
  have q1 := (o1.lr.mono (R' := fun b => h.n ≤ b) fun b _ h => by omega).old k2
  have q2 := o2.lr.mono (R' := fun b => h.n ≤ b) fun b _ h => by omega
  have kk : ∀ k, k < h.n → g2.get k = h.get k := fun k hk => by rw [k2 k (by omega), k1 k (by omega), w_push_ne (by omega)]
  have q4 := hv.old kk
  have one1 := q1.one
  have one2 := q2.one
  have c1 := q1.cells
  have c2 := q2.cells
  simp -implicitDefEqProofs (disch := (first | omega | (simp -implicitDefEqProofs only [szs, ne_eq] <;> omega) | fail)) only [go_sem, seval, ↓reduceIte, reduceCtorEq, undefV, hb2, ↓hlen, ↓one1, ↓one2, ↓hone, ↓c1, ↓c2, ↓hcv, wrap8]
  have hp3 : LR (g2.push (.cells (Blk.of [.int .u8 (pl : Int), .int .u8 (of : Int), .int .u8 ((l.length % 256 : Nat) : Int)]) 5)) (fun k => k = g2.n) (.slice (some (g2.n, 0)) 3 3 true) [bV pl, bV of, bV l.length] := by
    rw [← bV_lt hp, ← bV_lt ho]; exact LR.push g2 _ 5
  have kp : ∀ k, k < g2.n → (g2.push (.cells (Blk.of [.int .u8 (pl : Int), .int .u8 (of : Int), .int .u8 ((l.length % 256 : Nat) : Int)]) 5)).get k = g2.get k := fun k hk => w_push_ne (by omega) _
  have hpl := PLs.of (S := fun b => h.n ≤ b ∨ S b) (vs := [r1, r2, .slice (some (g2.n, 0)) 3 3 true, v]) (ll := [bigB num, bigB ep, [bV pl, bV of, bV l.length], l]) (e := 22) (g := g2.push (.cells (Blk.of [.int .u8 (pl : Int), .int .u8 (of : Int), .int .u8 ((l.length % 256 : Nat) : Int)]) 5)) rfl fun i x hi => by
    have : i < 4 := (List.getElem?_eq_some_iff.1 hi).1
    have hh : i = 0 ∨ i = 1 ∨ i = 2 ∨ i = 3 := by omega
    rcases hh with rfl | rfl | rfl | rfl <;> cases hi
    · exact (q1.old kp).mono fun b _ hb => .inl hb
    · exact (q2.old kp).mono fun b _ hb => .inl hb
    · exact hp3.mono fun b _ hb => .inl (by omega)
    · exact (q4.old kp).mono fun b _ hb => .inr hb
  have hfl : [bigB num, bigB ep, [bV pl, bV of, bV l.length], l].flatten = bigB num ++ bigB ep ++ [bV pl, bV of, bV l.length] ++ l := by simp
  have hfn : (bigB num ++ bigB ep ++ [bV pl, bV of, bV l.length] ++ l).length ≤ 127 := by simp [bigB_len]; omega
  have hfb : Byt (bigB num ++ bigB ep ++ [bV pl, bV of, bV l.length] ++ l) := (((byt_bigB _).app (byt_bigB _)).app (Byt.cons (byt_bV _) (Byt.cons (byt_bV _) (Byt.cons (byt_bV _) Byt.nil)))).app hb
  refine GCallD.of (SF.foot (join_ok (R := allR) (W := noW) hpl (fun _ => trivial) (by simp) (by rw [hfl]; omega) (fun x hx => by
    simp only [List.mem_cons, List.not_mem_nil, or_false] at hx
    rcases hx with rfl | rfl | rfl | rfl
    · exact byt_bigB _
    · exact byt_bigB _
    · exact Byt.cons (byt_bV _) (Byt.cons (byt_bV _) (Byt.cons (byt_bV _) Byt.nil))
    · exact hb)).kept (fun _ h => h) (fun _ h => h)) ?_
  rintro r7 g7 ⟨⟨o7, k7⟩, vf7⟩
  have n7 := vf7.n
  rw [hfl] at o7
  simp only [Heap.n_push] at n7 k7 o7
  simp -implicitDefEqProofs (disch := (first | omega | (simp -implicitDefEqProofs only [szs, ne_eq] <;> omega) | fail)) only [go_sem, seval, ↓reduceIte, reduceCtorEq, undefV]
  refine GCallD.of (SF.foot (sector_ok (R := allR) (W := noW) o7.lr (fun _ => trivial) (by omega) hfb) (fun _ h => h) (fun _ h => h)) ?_
  rintro r8 g8 ⟨o8, n8, k8⟩
  simp -implicitDefEqProofs (disch := (first | omega | (simp -implicitDefEqProofs only [szs, ne_eq] <;> omega) | fail)) only [go_sem, seval, ↓reduceIte, reduceCtorEq, undefV]
  simp only [noW, List.not_mem_nil, or_false, false_or, and_false, false_and, false_implies, implies_true, not_false_eq_true, List.mem_singleton, List.mem_cons, and_true, true_and, forall_const]
  refine ⟨by and_intros <;> (intros; omega), by and_intros <;> (intros; exact .inr (hR _)), o8.mono (by omega), by omega, fun b hb => ?_⟩
  rw [k8 b (by omega), k7 b (by omega), w_push_ne (by simp; omega), kp b (by omega), kk b hb]
def ir92_e : LC := (.seq (.ops [⟨some 66, Op.move (Operand.tmp 0), none⟩,
    ⟨some 67, Op.move (Operand.tmp 6), none⟩,
    ⟨some 68, Op.binOp BinOp.add 3 (Operand.const (Value.int IntKind.i64 19)) (Operand.tmp 67) 3, none⟩,
    ⟨some 69, Op.slice 22 (Operand.tmp 66) (some (Operand.const (Value.int IntKind.i64 19))) (some (Operand.tmp 68)) none, none⟩,
    ⟨some 70, Op.call { callee := Callee.value (Operand.func 42), args := #[Operand.tmp 69], argTypes := #[22] }, none⟩,
    ⟨some 7, Op.assign (Operand.tmp 70), none⟩])
  (.seq (.draw [⟨some 71, Op.load 90 (Operand.tmp 5), none⟩,
    ⟨some 72, Op.move (Operand.tmp 7), none⟩,
    ⟨some 73, Op.load 90 (Operand.tmp 5), none⟩,
    ⟨some 74, Op.move (Operand.tmp 7), none⟩,
    ⟨some 75, Op.call { callee := Callee.value (Operand.func 41), args := #[Operand.tmp 73, Operand.tmp 74], argTypes := #[90, 22] }, none⟩,
    ⟨some 76, Op.move (Operand.tmp 0), none⟩,
    ⟨some 77, Op.call { callee := Callee.value (Operand.func 67), args := #[Operand.tmp 75, Operand.tmp 76], argTypes := #[22, 22] }, none⟩,
    ⟨none, Op.store 90 (Operand.tmp 2) (Operand.tmp 71), none⟩,
    ⟨some 3, Op.assign (Operand.tmp 72), none⟩,
    ⟨some 4, Op.assign (Operand.tmp 77), none⟩] [(0, 4), (1, 4), (4, 5), (0, 6), (1, 6), (1, 7)])
  .ret))
def ir92_d : LC := (.seq (.ops [⟨some 21, Op.move (Operand.tmp 0), none⟩,
    ⟨some 22, Op.indexAddr 22 (Operand.tmp 21) (Operand.const (Value.int IntKind.i64 18)), none⟩,
    ⟨some 23, Op.load 5 (Operand.tmp 22), none⟩,
    ⟨some 24, Op.convert 5 3 (Operand.tmp 23), none⟩,
    ⟨some 6, Op.assign (Operand.tmp 24), none⟩])
  (.seq (.seq (.ops [⟨some 25, Op.move (Operand.tmp 6), none⟩,
    ⟨some 26, Op.binOp BinOp.gtr 3 (Operand.tmp 25) (Operand.const (Value.int IntKind.i64 108)) 3, none⟩,
    ⟨some 27, Op.move (Operand.tmp 26), none⟩,
    ⟨some 28, Op.fieldAddr 90 (Operand.tmp 5) 3, some (27, false)⟩,
    ⟨some 29, Op.load 5 (Operand.tmp 28), some (27, false)⟩,
    ⟨some 30, Op.binOp BinOp.lss 5 (Operand.tmp 29) (Operand.const (Value.int IntKind.u8 1)) 5, some (27, false)⟩,
    ⟨some 31, Op.pick (Operand.tmp 27) (Operand.const (Value.bool true)) (Operand.tmp 30), none⟩,
    ⟨some 32, Op.move (Operand.tmp 31), none⟩,
    ⟨some 33, Op.fieldAddr 90 (Operand.tmp 5) 3, some (32, false)⟩,
    ⟨some 34, Op.load 5 (Operand.tmp 33), some (32, false)⟩,
    ⟨some 35, Op.binOp BinOp.gtr 5 (Operand.tmp 34) (Operand.const (Value.int IntKind.u8 64)) 5, some (32, false)⟩,
    ⟨some 36, Op.pick (Operand.tmp 32) (Operand.const (Value.bool true)) (Operand.tmp 35), none⟩,
    ⟨some 37, Op.move (Operand.tmp 36), none⟩,
    ⟨some 38, Op.fieldAddr 90 (Operand.tmp 5) 2, some (37, false)⟩,
    ⟨some 39, Op.load 5 (Operand.tmp 38), some (37, false)⟩,
    ⟨some 40, Op.fieldAddr 90 (Operand.tmp 5) 3, some (37, false)⟩,
    ⟨some 41, Op.load 5 (Operand.tmp 40), some (37, false)⟩,
    ⟨some 42, Op.binOp BinOp.geq 5 (Operand.tmp 39) (Operand.tmp 41) 5, some (37, false)⟩,
    ⟨some 43, Op.pick (Operand.tmp 37) (Operand.const (Value.bool true)) (Operand.tmp 42), none⟩,
    ⟨some 44, Op.move (Operand.tmp 43), none⟩,
    ⟨some 45, Op.fieldAddr 90 (Operand.tmp 5) 2, some (44, false)⟩,
    ⟨some 46, Op.load 5 (Operand.tmp 45), some (44, false)⟩,
    ⟨some 47, Op.binOp BinOp.add 5 (Operand.tmp 46) (Operand.const (Value.int IntKind.u8 1)) 5, some (44, false)⟩,
    ⟨some 48, Op.fieldAddr 90 (Operand.tmp 5) 3, some (44, false)⟩,
    ⟨some 49, Op.load 5 (Operand.tmp 48), some (44, false)⟩,
    ⟨some 50, Op.binOp BinOp.lss 5 (Operand.tmp 47) (Operand.tmp 49) 5, some (44, false)⟩,
    ⟨some 51, Op.move (Operand.tmp 50), some (44, false)⟩,
    ⟨some 52, Op.move (Operand.tmp 6), some (51, true)⟩,
    ⟨some 53, Op.binOp BinOp.neq 3 (Operand.tmp 52) (Operand.const (Value.int IntKind.i64 108)) 3, some (51, true)⟩,
    ⟨some 54, Op.pick (Operand.tmp 51) (Operand.tmp 53) (Operand.const (Value.bool false)), some (44, false)⟩,
    ⟨some 55, Op.pick (Operand.tmp 44) (Operand.const (Value.bool true)) (Operand.tmp 54), none⟩,
    ⟨some 56, Op.move (Operand.tmp 55), none⟩,
    ⟨some 57, Op.fieldAddr 90 (Operand.tmp 5) 3, some (56, false)⟩,
    ⟨some 58, Op.load 5 (Operand.tmp 57), some (56, false)⟩,
    ⟨some 59, Op.binOp BinOp.gtr 5 (Operand.tmp 58) (Operand.const (Value.int IntKind.u8 1)) 5, some (56, false)⟩,
    ⟨some 60, Op.move (Operand.tmp 59), some (56, false)⟩,
    ⟨some 61, Op.move (Operand.tmp 6), some (60, true)⟩,
    ⟨some 62, Op.binOp BinOp.eql 3 (Operand.tmp 61) (Operand.const (Value.int IntKind.i64 0)) 3, some (60, true)⟩,
    ⟨some 63, Op.pick (Operand.tmp 60) (Operand.tmp 62) (Operand.const (Value.bool false)), some (56, false)⟩,
    ⟨some 64, Op.pick (Operand.tmp 56) (Operand.const (Value.bool true)) (Operand.tmp 63), none⟩])
  (.cond (Operand.tmp 64)
  (.seq (.ops [⟨some 65, Op.build 90 #[], none⟩,
    ⟨none, Op.store 90 (Operand.tmp 2) (Operand.tmp 65), none⟩,
    ⟨some 3, Op.assign (Operand.const (Value.slice none 0 0)), none⟩,
    ⟨some 4, Op.assign (Operand.const (Value.bool false)), none⟩])
  .ret)
  .skip))
  ir92_e))
def ir92_c : LC := (.seq (.ops [⟨some 2, Op.alloc 90, none⟩,
    ⟨some 3, Op.assign (Operand.const (Value.slice none 0 0)), none⟩,
    ⟨some 4, Op.assign (Operand.const (Value.bool false)), none⟩])
  (.seq (.draw [⟨some 8, Op.move (Operand.tmp 0), none⟩,
    ⟨some 9, Op.slice 22 (Operand.tmp 8) none (some (Operand.const (Value.int IntKind.i64 8))) none, none⟩,
    ⟨some 10, Op.call { callee := Callee.value (Operand.func 101), args := #[Operand.tmp 9], argTypes := #[22] }, none⟩,
    ⟨some 11, Op.move (Operand.tmp 0), none⟩,
    ⟨some 12, Op.slice 22 (Operand.tmp 11) (some (Operand.const (Value.int IntKind.i64 8))) (some (Operand.const (Value.int IntKind.i64 16))) none, none⟩,
    ⟨some 13, Op.call { callee := Callee.value (Operand.func 101), args := #[Operand.tmp 12], argTypes := #[22] }, none⟩,
    ⟨some 14, Op.move (Operand.tmp 0), none⟩,
    ⟨some 15, Op.indexAddr 22 (Operand.tmp 14) (Operand.const (Value.int IntKind.i64 16)), none⟩,
    ⟨some 16, Op.load 5 (Operand.tmp 15), none⟩,
    ⟨some 17, Op.move (Operand.tmp 0), none⟩,
    ⟨some 18, Op.indexAddr 22 (Operand.tmp 17) (Operand.const (Value.int IntKind.i64 17)), none⟩,
    ⟨some 19, Op.load 5 (Operand.tmp 18), none⟩,
    ⟨some 20, Op.build 90 #[(0, Operand.tmp 10), (1, Operand.tmp 13), (2, Operand.tmp 16), (3, Operand.tmp 19)], none⟩,
    ⟨some 5, Op.alloc 90, none⟩,
    ⟨none, Op.store 90 (Operand.tmp 5) (Operand.tmp 20), none⟩] [(2, 3), (2, 4), (2, 6), (5, 6), (2, 7), (5, 7), (2, 8), (5, 8), (2, 9), (5, 9), (2, 10), (5, 10), (2, 11), (5, 11), (0, 13), (1, 13), (2, 13), (3, 13), (4, 13), (5, 13), (6, 13), (7, 13), (8, 13), (9, 13), (10, 13), (11, 13), (12, 13)])
  ir92_d))
theorem ir92_c_eq : ir92 = ir92_c := rfl

theorem sl_8 (b : Nat) : sliceV Try.prog 22 (.slice (some (b, 0)) 128 128 true) none (some 8) none = some (.slice (some (b, 0)) 8 128 true) := by
  simp only [sliceV, Try.underlying22, sz_5, boundsV]
  rfl
theorem sl_16 (b : Nat) : sliceV Try.prog 22 (.slice (some (b, 0)) 128 128 true) (some 8) (some 16) none = some (.slice (some (b, 8)) 8 120 true) := by
  simp only [sliceV, Try.underlying22, sz_5, boundsV]
  rfl
theorem sl_19 (b : Nat) {n : Nat} (hn : n ≤ 108) : sliceV Try.prog 22 (.slice (some (b, 0)) 128 128 true) (some 19) (some (19 + (n : Int))) none = some (.slice (some (b, 19)) n 109 true) := by
  have e : (19 + (n : Int)).toNat = 19 + n := by omega
  have hbv : boundsV 128 128 (some 19) (some (19 + (n : Int))) none = some (19, 19 + n, 128) := by
    simp only [boundsV, e]
    rw [if_pos (by simp; omega)]
    simp only []
    rw [if_pos (by constructor <;> omega)]; rfl
  simp only [sliceV, Try.underlying22, sz_5, hbv]
  simp
theorem gets_sub {c : Blk} {l : List V} {n o k : Nat} (h : c.gets 0 n = l) (hk : o + k ≤ n) : c.gets o k = (l.drop o).take k := by
  have hl : l.length = n := by rw [← h, Blk.length_gets]
  refine Blk.gets_ext (fun j hj => ?_) (by rw [List.length_take, List.length_drop]; omega)
  rw [List.length_take, List.length_drop] at hj
  have := Blk.gets_get c n 0 (o + j) (by omega)
  rw [h, Nat.zero_add] at this
  rw [List.getD_eq_getElem?_getD, List.getElem?_take, if_pos (by omega), List.getElem?_drop, this]; rfl
theorem sub_lr {b o k cap : Nat} {ex : Bool} {c : Blk} {ce : TypeId} {l : List V} {n : Nat} (h1 : h.get b = some (.cells c ce)) (h2 : n ≤ c.size) (hg : c.gets 0 n = l) (hk : o + k ≤ n) : LR h (fun x => x = b) (.slice (some (b, o)) k cap ex) ((l.drop o).take k) := by
  have hl : l.length = n := by rw [← hg, Blk.length_gets]
  have hlk : ((l.drop o).take k).length = k := by rw [List.length_take, List.length_drop]; omega
  exact .inr ⟨b, o, cap, ex, c, ce, by rw [hlk], rfl, h1, by omega, by rw [hlk]; exact gets_sub hg hk⟩
def Rc.v (r : Rc) : List V := [.int .u64 (r.num : Int), .int .u64 (r.ep : Int), .int .u8 (r.pl : Int), .int .u8 (r.of : Int)]
set_option maxHeartbeats 8000000 in
theorem read_e {Q : Ex → Fr → Heap → Prop} {t : List It} {b mb zb n0 : Nat} {l : List V} {tr : Tr V} {c cm cz : Blk} {ce : TypeId} (h1 : h.get b = some (.cells c ce)) (h2 : 128 ≤ c.size) (h3 : c.gets 0 128 = l) (hb : Byt l) (hR : ∀ b, R b) (hW : ∀ b, n0 ≤ b → W b) (hn0 : n0 ≤ h.n) (hWz : n0 ≤ zb) (hn : bAt l 18 ≤ 108) (hbb : b < n0)
    (m1 : h.get mb = some (.cells cm 90)) (m2 : cm.size = 4) (m3 : cm.gets 0 4 = (rawR l).v)
    (z1 : h.get zb = some (.cells cz 90)) (z2 : cz.size = 4) (z3 : cz.ro = false)
    (hp : (rawR l).pl < 256 ∧ (rawR l).of < 256)
    (t0 : tr.get 0 = some (.slice (some (b, 0)) 128 128 true)) (t2 : tr.get 2 = some (.ptr (some (zb, 0)))) (t5 : tr.get 5 = some (.ptr (some (mb, 0)))) (t6 : tr.get 6 = some (.int .i64 (bAt l 18 : Nat)))
    (hk : ∀ tr g v, tr.get 2 = some (.ptr (some (zb, 0))) → tr.get 3 = some v → tr.get 4 = some (.bool (sameB (rawR l).put l)) → Own n0 g v (rawR l).dat 5 → h.n ≤ g.n → (∀ k, k < h.n → k ≠ zb → g.get k = h.get k) → (∃ c, g.get zb = some (.cells c 90) ∧ c.size = 4 ∧ c.gets 0 4 = (rawR l).v) → Q .ret ⟨⟨78, tr⟩, []⟩ g) :
    GO (Try.prog : MP) R W none Q (It.code ir92_e :: t) ⟨⟨78, tr⟩, []⟩ h := by
  have hll : l.length = 128 := by rw [← h3, Blk.length_gets]
  have hs := sl_19 b hn
  have hd := sub_lr (ex := true) (cap := 109) (o := 19) (k := bAt l 18) h1 h2 h3 (by omega)
  have hdl : ((l.drop 19).take (bAt l 18)).length = bAt l 18 := by rw [List.length_take, List.length_drop]; omega
  have hdb : Byt ((l.drop 19).take (bAt l 18)) := (hb.drop 19).take _
  simp -implicitDefEqProofs (disch := (first | omega | (simp -implicitDefEqProofs only [szs, ne_eq] <;> omega) | fail)) only [go_sem, seval, ↓reduceIte, reduceCtorEq, ir92_e, undefV, t0, t2, t5, t6, hs]
  refine GCall.of (SF.foot (clone42 (R := R) (W := noW) hd hR (by omega) hdb.allOne).kept (fun _ h => h) (fun _ h => h.elim)) ?_
  rintro r g1 ⟨⟨o1, k1⟩, vf1⟩
  have n1 := vf1.n
  have hone := o1.lr.one
  have hvl : (rawR l).v.length = 4 := rfl
  have hall : allOne (rawR l).v = true := rfl
  have hm1 := (k1 _ (Heap.lt_of_get m1)).trans m1
  have hz1 := (k1 _ (Heap.lt_of_get z1)).trans z1
  have hRm := hR mb
  simp -implicitDefEqProofs (disch := (first | omega | (simp -implicitDefEqProofs only [szs, ne_eq] <;> omega) | fail)) only [go_sem, seval, ↓reduceIte, reduceCtorEq, undefV, t0, t2, t5, t6, hm1, m2, m3, hRm, hvl, hall]
  rw [show (rawR l).v = [.int .u64 ((rawR l).num : Int), .int .u64 ((rawR l).ep : Int), .int .u8 ((rawR l).pl : Int), .int .u8 ((rawR l).of : Int)] from rfl]
  refine GCallD.of (SF.foot (part_ok (R := allR) (W := noW) hp.1 hp.2 o1.lr (by omega) hdb (fun _ => trivial)) (fun _ h => h) (fun _ h => h)) ?_
  rintro r2 g2 ⟨o2, n2, k2⟩
  have hd2 := ((sub_lr (ex := true) (cap := 128) (o := 0) (k := 128) h1 h2 h3 (by omega)).old k1).old k2
  rw [List.drop_zero, List.take_of_length_le (by omega)] at hd2
  have hlr2 : LR g2 (fun x => x = b) (.slice (some (b, 0)) 128 128 true) l := hd2
  simp -implicitDefEqProofs (disch := (first | omega | (simp -implicitDefEqProofs only [szs, ne_eq] <;> omega) | fail)) only [go_sem, seval, ↓reduceIte, reduceCtorEq, undefV, t0, t2, t5, t6]
  refine GCallD.of (SF.foot (equal_ok (R := allR) (W := noW) o2.lr hlr2 (fun _ => trivial) (byt_part _ _ _ _ hdb) hb) (fun _ h => h) (fun _ h => h)) ?_
  rintro r3 g3 ⟨rfl, rfl⟩
  have hz2 := (k2 _ (Heap.lt_of_get hz1)).trans hz1
  have hWz' := hW zb hWz
  have hput : (cz.puts 0 (rawR l).v).gets 0 4 = (rawR l).v := by
    refine List.ext_getElem? fun j => ?_
    by_cases hj : j < 4
    · rw [Blk.gets_get _ _ _ _ hj, Blk.get_puts, if_pos ⟨by omega, by rw [hvl]; omega⟩, Nat.sub_zero, Nat.zero_add, List.getD_eq_getElem?_getD, List.getElem?_eq_getElem (by rw [hvl]; exact hj)]; rfl
    · rw [List.getElem?_eq_none (by rw [Blk.length_gets]; omega), List.getElem?_eq_none (by rw [hvl]; omega)]
  simp -implicitDefEqProofs (disch := (first | omega | (simp -implicitDefEqProofs only [szs, ne_eq] <;> omega) | fail)) only [go_sem, seval, ↓reduceIte, reduceCtorEq, undefV, t0, t2, hz2, z2, z3, hWz']
  refine ⟨?_, ?_, hk _ _ r (by simp -implicitDefEqProofs (disch := (first | omega | (simp -implicitDefEqProofs only [szs, ne_eq] <;> omega) | fail)) only [go_sem, seval, ↓reduceIte, reduceCtorEq, t2]) (by simp -implicitDefEqProofs (disch := (first | omega | (simp -implicitDefEqProofs only [szs, ne_eq] <;> omega) | fail)) only [go_sem, seval, ↓reduceIte, reduceCtorEq]) (by simp -implicitDefEqProofs (disch := (first | omega | (simp -implicitDefEqProofs only [szs, ne_eq] <;> omega) | fail)) only [go_sem, seval, ↓reduceIte, reduceCtorEq]; rfl) ((o1.mono (by omega)).keep fun k c e => ?_) (by simp only [Heap.n_set]; omega) (fun k q1 q2 => ?_) ⟨_, w_set_eq (Heap.lt_of_get hz2) rfl _, by simp only [Blk.size_set]; exact z2, hput⟩⟩
  · simp only [noW]
    (try simp only [List.not_mem_nil, or_false, false_or, and_false, false_and, false_implies, implies_true, not_false_eq_true, List.mem_singleton, List.mem_cons, and_true, true_and, forall_const]; try and_intros; all_goals (try trivial); all_goals (intro b hb; first | omega | (intro hc; first | omega | (rcases hb with hb | hb <;> first | omega))))
  · simp only [noW]
    and_intros
    all_goals (intros; first | exact hR _ | exact (by assumption : False).elim | exact hW _ (by omega) | omega)
  · have hne : k ≠ zb := fun h => by rw [h, hz1] at e; cases e
    rw [w_set_ne (Heap.lt_of_get hz2) hne, k2 k (Heap.lt_of_get e)]; exact e
  · rw [w_set_ne (Heap.lt_of_get hz2) q2, k2 k (by omega), k1 k (by omega)]
theorem bAt_get {l : List V} {c : Blk} {n i : Nat} (hl : c.gets 0 n = l) (hb : Byt l) (hi : i < n) : c.get i = .int .u8 (bAt l i : Nat) ∧ bAt l i < 256 := by
  have hll : l.length = n := by rw [← hl, Blk.length_gets]
  have h1 := Blk.gets_get c n 0 i hi
  rw [hl, Nat.zero_add] at h1
  obtain ⟨m1, m2⟩ := bN_lt hb (List.mem_of_getElem? h1)
  have e : bAt l i = bN (c.get i) := by unfold bAt; rw [List.getD_eq_getElem?_getD, h1]; rfl
  rw [e]; exact ⟨m2, m1⟩
theorem recA_bad {l : List V} (h : ¬ okR (bAt l 18) (bAt l 16) (bAt l 17)) : recA l = none := by unfold recA; rw [if_neg fun hc => h hc.1]
theorem recA_good {l : List V} (hl : l.length = 128) (hb : Byt l) (h : okR (bAt l 18) (bAt l 16) (bAt l 17)) : recA l = if sameB (rawR l).put l then some (rawR l) else none := by
  have hq : sameB (rawR l).put l = true ↔ (rawR l).put = l := sameB_iff (byt_part (rawR l).num (rawR l).ep (rawR l).pl (rawR l).of ((hb.drop 19).take (bAt l 18))) hb
  unfold recA
  by_cases hc : (rawR l).put = l
  · rw [if_pos ⟨h, hc⟩, if_pos (hq.2 hc)]
  · rw [if_neg fun h => hc h.2, if_neg fun h => hc (hq.1 h)]
end Go.Proofs.Ytakgjjbmniilhaa
