/- do: Write; goes on over a copy. -/
import Derived.Test.YthdkhbhicimpdaaFF
import Derived.Test.YthdkhbhicimpdaaG2
import Derived.Test.YthdkhbhicimpdaaF7
import Derived.Test.YthdkhbhicimpdaaF8
set_option linter.unusedVariables false
set_option maxRecDepth 100000
namespace Go.Proofs.Ythdkhbhicimpdaa
open Go Go.Vm
attribute [-go_sem] sz_113
theorem slice_own {n0 : Nat} {h : Heap} {v : V} {l z : List V} (ho : Own n0 h v (l ++ z) 5) : ∃ v', sliceV Try.prog 45 v none (some (l.length : Int)) none = some v' ∧ LR h (fun b => n0 ≤ b) v' l := by
  rcases ho with ⟨h0, rfl | ⟨b, c, rfl, h1, hb, _⟩⟩ | ⟨b, x, c, h0, rfl, h1, hb, hs, _, hg⟩
  · obtain rfl : l = [] := by simp at h0; exact h0.1
    exact ⟨.slice none 0 0 true, by simp only [sliceV, Try.underlying45, sz_5]; rfl, .inl ⟨rfl, .inl rfl⟩⟩
  · obtain rfl : l = [] := by simp at h0; exact h0.1
    exact ⟨.slice (some (b, 0)) 0 0 true, by simp only [sliceV, Try.underlying45, sz_5]; rfl, .inr ⟨b, 0, 0, true, c, 5, rfl, h1, hb, by simp, rfl⟩⟩
  · have hll : (l ++ z).length = l.length + z.length := by simp
    have hbv : boundsV (l ++ z).length (l ++ z).length none (some (l.length : Int)) none = some (0, l.length, (l ++ z).length) := by
      have : (l.length : Int).toNat = l.length := by omega
      simp only [boundsV, this]
      rw [if_pos (by omega)]
    have hp := List.length_pos_iff.2 h0
    have hb0 : Nat.blt 0 (l ++ z).length = true := w_blt_t (by omega)
    have hq0 : Nat.beq (l ++ z).length 0 = false := w_beq_f (by omega)
    refine ⟨.slice (some (b, 0)) l.length (l ++ z).length x, ?_, .inr ⟨b, 0, _, x, c, 5, rfl, h1, hb, by omega, ?_⟩⟩
    · simp only [sliceV, Try.underlying45, sz_5, hbv]
      cases x with
      | true => simp only [hq0]; rfl
      | false => simp
    · refine Blk.gets_ext (fun j hj => ?_) rfl
      have := Blk.gets_get c (l ++ z).length 0 j (by omega)
      rw [hg, List.getElem?_append_left hj] at this
      rw [List.getD_eq_getElem?_getD, this]; rfl
theorem strB_size (l : List V) : (strB l).size = l.length := by
  show (l.map byteOf).length = _
  simp
theorem sb_add2 {l : List V} (hl : l.length ≤ 1000000000) : strBin .add (strB l) { data := #[119] } = some (.str (strB (l ++ [.int .u8 119]))) := by
  have hs := strB_size l
  have h1 : (ByteArray.mk #[119]).size = 1 := rfl
  show (if (((strB l).size + (ByteArray.mk #[119]).size : Nat) : Int) > IntKind.i64.max then none else some (V.str (strB l ++ ByteArray.mk #[119]))) = _
  rw [if_neg (by rw [hs, h1]; show ¬ _ > (9223372036854775807 : Int); omega)]
  congr 2
  apply ByteArray.ext
  rw [ByteArray.data_append]
  apply Array.toList_inj.1
  simp [strB, byteOf]
def Byt (l : List V) : Prop := ∀ v ∈ l, ∃ n : Int, v = .int .u8 n ∧ 0 ≤ n ∧ n ≤ 255
theorem allOne_byt : ∀ {l : List V}, Byt l → allOne l = true
  | [], _ => rfl
  | v :: l, h => by
    obtain ⟨n, rfl, _⟩ := h v (by simp)
    have := allOne_byt (l := l) fun v hv => h v (by simp [hv])
    simp only [allOne, V.one, this]
theorem byt_app {l : List V} (h : Byt l) : Byt (l ++ [.int .u8 119]) := fun v hv => by
  rcases List.mem_append.1 hv with hv | hv
  · exact h v hv
  · simp at hv; subst hv; exact ⟨119, rfl, by omega, by omega⟩
theorem first_one {h : Heap} {b : Nat} {v : V} {e : TypeId} (hb : h.get b = some (.cells (Blk.of [v]) e)) : firstV h 1 1 (.slice (some (b, 0)) 1 1 true) = some ([v], [b]) := by
  simp only [firstV, hb]; rfl
set_option maxHeartbeats 4000000 in
theorem do_write {K : Nat} {P : Set'} {h : Heap} {W SX SD : Set'} {u : UU} {rx rd qb hb fb pb : Nat} {hk : Nat → Nat} (p : PX P h u u.X u.D SX SD rx rd qb hb fb pb hk) (few : ∀ s, (u.D.pe s).length ≤ K) (hK : K < 900000) (hW : ∀ b, P b → W b) {a b c : Int} (d kv : V) (hk1 : kv.one = true) {l : List V} (hdv : BytesV h (fun b => ¬ P b ∧ b < h.n) d l) (hl : l.length ≤ 100000000) :
    SF ⟨Try.prog, true⟩ 22 [.agg [.ptr (some (u.bx, 0)), .ptr (some (u.bd, 0)), .ptr (some (rx, 0))], .agg [.int .i64 3, .int .i64 a, .int .i64 b, .int .i64 c, d, kv]] h (fun _ => True) W (DoX P u.X K) := by
  have hd1 := hdv.one
  have hbyt : Byt l := hdv.2.1
  have hlr : LR h (fun b => ¬ P b ∧ b < h.n) d l := hdv.2.2
  have hlen := hlr.lenV Try.underlying45
  refine SF.go hm Try.func22 ir22_eq ?_
  obtain ⟨h2, e2, n2, ⟨s0, x0, x1, xr, x2, x3, x4⟩, ⟨s1, y0, y1, y2, y3, y4, y5, y6, y7⟩, ⟨s2, z0, z1, z2⟩, k2⟩ := stDo h (.ptr (some (u.bx, 0))) (.ptr (some (u.bd, 0))) (.ptr (some (rx, 0))) 3 a b c d kv
  have p2 := p.old (by omega) k2
  have hlr2 := hlr.old k2
  have hlt := p.au.lt
  have hW2 : ∀ b, P b → (h.n ≤ b ∨ W b) := fun b hb => .inr (hW b hb)
  have sdl : ∀ b, SD b → b < h.n := fun b hb => (p.sd b hb).2.1
  have hee : ∀ e : Int, (e == e) = true := fun e => by simp
  obtain ⟨hx1, rs, hx2, _⟩ := first_lr hlr2
  obtain ⟨v1, g1, r1, w1, hap1, o1, m1, k1, hw1, _⟩ := app_own (n0 := h2.n) (h := h2) (v := .slice none 0 0 true) (x := d) (l := []) (e := 5) (bytes := 1) (Own.nil _ _ _) (Nat.le_refl _) hx1 hx2 (allOne_byt hbyt) (by simp only [List.length_nil]; omega) (by simp only [List.length_nil]; omega)
  rw [List.nil_append] at o1
  obtain ⟨v2, g2, r2, w2, hap2, o2, m2, k3, hw2, _⟩ := app_own (n0 := h2.n) (h := g1.push (.cells (Blk.of [.int .u8 119]) 5)) (v := v1) (x := .slice (some (g1.n, 0)) 1 1 true) (l := l) (news := [.int .u8 119]) (e := 5) (bytes := 1) (o1.old fun b hb => by simp -implicitDefEqProofs (disch := (first | omega | (simp -implicitDefEqProofs only [szs, ne_eq] <;> omega) | fail)) only [go_sem]) (by simp; omega) rfl (first_one (e := 5) (by simp -implicitDefEqProofs (disch := (first | omega | (simp -implicitDefEqProofs only [szs, ne_eq] <;> omega) | fail)) only [go_sem])) rfl (by simp only [List.length_cons, List.length_nil]; omega) (by simp only [List.length_cons, List.length_nil]; omega)
  have ha1 : allB (fun b => h.n ≤ b ∨ W b) w1 := allB_of fun b hb => .inl (by have := hw1 b hb; omega)
  have ha2 : allB (fun b => h.n ≤ b ∨ W b) w2 := allB_of fun b hb => .inl (by have := hw2 b hb; omega)
  have k12 : ∀ b, b < h2.n → g2.get b = h2.get b := fun b hb => by rw [k3 b hb, ← k1 b hb]; simp -implicitDefEqProofs (disch := (first | omega | (simp -implicitDefEqProofs only [szs, ne_eq] <;> omega) | fail)) only [go_sem]
  have hgn2 : h2.n ≤ g2.n := by simp at m2; omega
  obtain ⟨vs, hsl, hvs⟩ := slice_own o2
  have p3 := p2.old hgn2 k12
  have hlr3 := hlr2.old k12
  have x0' := (k12 _ (by omega)).trans x0
  have y0' := (k12 _ (by omega)).trans y0
  simp -implicitDefEqProofs (disch := (first | omega | (simp -implicitDefEqProofs only [szs, ne_eq] <;> omega) | fail)) only [go_sem, Nat.reduceAdd, Nat.reduceSub, Nat.reduceLT, Nat.reduceMod, Nat.reduceDiv, ↓reduceIte, reduceCtorEq, ir22, e2, x1, x2, y0, y1, y2, y3, y4, y6, appendV_of ap_45, hap1, hap2, ha1, ha2, allB_T, x0', y0', ↓hlen, hsl]
  refine GCallD.of (R' := fun _ => True) (W' := u.foot) (((uwrite_any (R := fun _ => True) (W := u.foot) (Rd := fun b => h2.n ≤ b) p3.au (fun _ _ => trivial) (fun _ _ => trivial) (fun _ h => h) a b ⟨by omega, hbyt, hvs⟩ (fun s => by have := few s; omega)).kept).foot (fun _ _ => trivial) (fun b hb => hb)) ?_
  rintro v g3 ⟨⟨u3, q1, hu3, w3, w4, w5, w6⟩, vf3⟩
  have n3 := vf3.n
  have p4 := p3.prog vf3 hu3 w6
  have kf : ∀ b, b < g2.n → ¬ u.foot b → g3.get b = g2.get b := vf3.get
  have hlr4 := hlr3.same (h' := g3) fun b hb hl => kf b hl fun hf => hb.1 (p.fu b hf)
  have x0'' := (kf h.n (by omega) (fun hf => by have := hlt _ hf; omega)).trans x0'
  have y0'' := (kf (h.n + 1) (by omega) (fun hf => by have := hlt _ hf; omega)).trans y0'
  have z0' := (kf (h.n + 2) (by omega) (fun hf => by have := hlt _ hf; omega)).trans ((k12 _ (by omega)).trans z0)
  have o4 : LR g3 (fun b => h2.n ≤ b) v2 (l ++ [.int .u8 119]) := o2.lr.same fun b h1 h3 => kf b h3 fun hf => by have := hlt b hf; omega
  obtain ⟨rsA, _, hcA'⟩ := conv_lr (o4.mono (R' := fun _ => True) fun _ _ _ => trivial) (byt_app hbyt)
  have hcA := hcA' g3 (fun _ _ _ => rfl)
  obtain ⟨rsB, _, hcB'⟩ := conv_lr hlr4 hbyt
  have hcB := hcB' g3 (fun _ _ _ => rfl)
  have hadd := sb_add2 (l := l) (by omega)
  obtain ⟨i1, rfl⟩ := q1.shape
  simp -implicitDefEqProofs (disch := (first | omega | (simp -implicitDefEqProofs only [szs, ne_eq] <;> omega) | fail)) only [go_sem, Nat.reduceAdd, Nat.reduceSub, Nat.reduceLT, Nat.reduceMod, Nat.reduceDiv, ↓reduceIte, reduceCtorEq, x0'', x1, x2, x3, x4, y0'', y1, y6, ↓cv_opD, hcA, hcB, hadd, sb_eql]
  refine ⟨fun b _ hb => hW2 b (p2.fu b hb), ?_⟩
  refine GCallD.of (R' := fun _ => True) (W' := fun _ => False) (num_ok _) ?_
  rintro v g3 ⟨rfl, rfl⟩
  simp -implicitDefEqProofs (disch := (first | omega | (simp -implicitDefEqProofs only [szs, ne_eq] <;> omega) | fail)) only [go_sem, Nat.reduceAdd, Nat.reduceSub, Nat.reduceLT, Nat.reduceMod, Nat.reduceDiv, ↓reduceIte, reduceCtorEq, x0'', x1, x4, y0'', y1, y3, y4, y6]
  have hsec : l.length = 128 → IsSec l := fun e => ⟨e.trans secN_eq.symm, hbyt⟩
  refine GCallD.of (R' := fun _ => True) (W' := SD) (((rxwrite_any p4.rx p4.rd (fun b hb => (p4.sd b hb).2.1) p4.fit a b (hlr4.mono fun _ _ _ => trivial) hlen hsec (fun s => by have := few s; omega)).kept).foot (fun _ _ => trivial) (fun b hb => hb)) ?_
  rintro v g4 ⟨⟨D2, q2, hd2⟩, vf4⟩
  have n4 := vf4.n
  obtain ⟨rfl, rfl⟩ := q1.uniq q2
  have t1 := q1.n
  have p5 := p4.docD vf4 hd2 t1.1
  have z0'' := (vf4.get (h.n + 2) (by omega) (fun hf => by have := sdl _ hf; omega)).trans z0'
  simp -implicitDefEqProofs (disch := (first | omega | (simp -implicitDefEqProofs only [szs, ne_eq] <;> omega) | fail)) only [go_sem, Nat.reduceAdd, Nat.reduceSub, Nat.reduceLT, Nat.reduceMod, Nat.reduceDiv, ↓reduceIte, reduceCtorEq, z0'', z1, z2, hee, undefV]
  refine ⟨?_, ?_, ?_⟩
  · (try simp only [List.not_mem_nil, or_false, false_or, and_false, false_implies, implies_true, not_false_eq_true, List.mem_cons, and_true, true_and]; try and_intros; all_goals (try trivial); all_goals (intro b hb; first | omega | (intro hc; first | omega | (have := hlt _ hb.2; omega) | (have := sdl _ hb.2; omega) | (rcases hb with hb | hb <;> first | omega | (have := hlt _ hb.2; omega) | (have := sdl _ hb.2; omega)))))
  · and_intros
    all_goals (intros; first | omega | exact (by assumption : False).elim | exact hW2 _ (p2.fu _ (by assumption)) | exact hW2 _ (p2.sd _ (by assumption)).1)
  refine ⟨u3, SX, _, rx, rd, qb, hb, fb, pb, hk, by rw [w4, w5], (p5.keep (by simp) fun b hb hl => w_set_ne (by omega) ?_ _).mk' w3 rfl, (fun s => by have := few s; have := t1.2 s; omega), by rw [w3]; exact ⟨rfl, rfl, rfl⟩⟩
  rcases hb with hb | hb | hb
  · have := (p.sx b hb).2.1; omega
  · rcases hb with hb | hb
    · have := sdl b hb; omega
    · omega
  · rcases w6 b hb with hb | hb
    · have := hlt b hb; omega
    · omega
set_option maxHeartbeats 4000000 in
theorem do_over {K : Nat} {P : Set'} {h : Heap} {W SX SD : Set'} {u : UU} {rx rd qb hb fb pb : Nat} {hk : Nat → Nat} (p : PX P h u u.X u.D SX SD rx rd qb hb fb pb hk) (few : ∀ s, (u.D.pe s).length ≤ K) (hW : ∀ b, P b → W b) {a b c : Int} (d kv : V) (hd1 : d.one = true) (hk1 : kv.one = true) :
    SF ⟨Try.prog, true⟩ 22 [.agg [.ptr (some (u.bx, 0)), .ptr (some (u.bd, 0)), .ptr (some (rx, 0))], .agg [.int .i64 7, .int .i64 a, .int .i64 b, .int .i64 c, d, kv]] h (fun _ => True) W (DoX P u.X K) := by
  refine SF.go hm Try.func22 ir22_eq ?_
  obtain ⟨h2, e2, n2, ⟨s0, x0, x1, xr, x2, x3, x4⟩, ⟨s1, y0, y1, y2, y3, y4, y5, y6, y7⟩, ⟨s2, z0, z1, z2⟩, k2⟩ := stDo h (.ptr (some (u.bx, 0))) (.ptr (some (u.bd, 0))) (.ptr (some (rx, 0))) 7 a b c d kv
  have p2 := p.old (by omega) k2
  have hlt := p.au.lt
  have sdl : ∀ b, SD b → b < h.n := fun b hb => (p.sd b hb).2.1
  have hW2 : ∀ b, P b → (h.n ≤ b ∨ W b) := fun b hb => .inr (hW b hb)
  have hee : ∀ e : Int, (e != e) = false := fun e => by simp
  simp -implicitDefEqProofs (disch := (first | omega | (simp -implicitDefEqProofs only [szs, ne_eq] <;> omega) | fail)) only [go_sem, Nat.reduceAdd, Nat.reduceSub, Nat.reduceLT, Nat.reduceMod, Nat.reduceDiv, ↓reduceIte, reduceCtorEq, ir22, e2, x0, x1, x3, y0, y1, y2]
  refine GCall.of (copy_ok p2.au.d (fun _ => trivial)) ?_
  rintro v g1 ⟨bd', L', rfl, hd1', hf1, n1, kk1⟩
  have p3 := p2.old n1 kk1
  have x0' := (kk1 h.n (by omega)).trans x0
  simp -implicitDefEqProofs (disch := (first | omega | (simp -implicitDefEqProofs only [szs, ne_eq] <;> omega) | fail)) only [go_sem, Nat.reduceAdd, Nat.reduceSub, Nat.reduceLT, Nat.reduceMod, Nat.reduceDiv, ↓reduceIte, reduceCtorEq, x0', x1, x2]
  refine GCall.of (((xover_ok (R := fun _ => True) (W := fun _ => False) p3.au.x p3.au.d hd1' rfl (fun _ => trivial)).any.kept).foot (fun _ _ => trivial) (fun b hb => hb.elim)) ?_
  rintro v g2 ⟨⟨rfl, kk2, tb', hx2, htb⟩, vf2⟩
  have n3 := vf2.n
  have p4 := p3.old n3 kk2
  have hd2' := hd1'.old kk2
  have x0'' := (kk2 h.n (by omega)).trans x0'
  obtain ⟨c9, xq, xh, r1, r2, r3, r4, r5, r6⟩ := p4.rx.x
  have hc9 := r4
  simp -implicitDefEqProofs (disch := (first | omega | (simp -implicitDefEqProofs only [szs, ne_eq] <;> omega) | fail)) only [go_sem, Nat.reduceAdd, Nat.reduceSub, Nat.reduceLT, Nat.reduceMod, Nat.reduceDiv, ↓reduceIte, reduceCtorEq, x0'', x1, x4, r1, r2, r4]
  refine GCallD.of (R' := fun _ => True) (W' := fun _ => False) ((rdcopy_ok (R := fun _ => True) (W := fun _ => False) p4.rd (fun _ => trivial)).kept) ?_
  rintro v g3 ⟨⟨rd', fb', pb', rfl, o1, o2, o3, hd3, n4, kk3⟩, vf3⟩
  have p5 := p4.old n4 kk3
  have hd3' := hd3
  simp -implicitDefEqProofs (disch := (first | omega | (simp -implicitDefEqProofs only [szs, ne_eq] <;> omega) | fail)) only [go_sem, Nat.reduceAdd, Nat.reduceSub, Nat.reduceLT, Nat.reduceMod, Nat.reduceDiv, ↓reduceIte, reduceCtorEq]
  refine GCallD.of (R' := fun _ => True) (W' := fun _ => False) ((rover_ok (R := fun _ => True) (W := fun _ => False) p5.rx p5.rd.at hd3.at rfl (fun _ => trivial)).kept) ?_
  rintro v g4 ⟨⟨rfl, n5, kk4, hb', hk', hx4⟩, vf4⟩
  have p6 := p5.old n5 kk4
  have hxl := hx2.lt
  simp -implicitDefEqProofs (disch := (first | omega | (simp -implicitDefEqProofs only [szs, ne_eq] <;> omega) | fail)) only [go_sem, Nat.reduceAdd, Nat.reduceSub, Nat.reduceLT, Nat.reduceMod, Nat.reduceDiv, ↓reduceIte, reduceCtorEq]
  refine ⟨?_, ?_, ?_⟩
  · (try simp only [List.not_mem_nil, or_false, false_or, and_false, false_implies, implies_true, not_false_eq_true, List.mem_cons, and_true]; try and_intros; all_goals (try trivial); all_goals (intro b hb; first | omega | (intro hc; first | omega | (have := hlt _ hb.2; omega) | (rcases hb with hb | hb <;> first | omega | (have := hlt _ hb.2; omega)))))
  · intros; exact (by assumption : False).elim
  refine GCall.of (num_ok _).any ?_
  rintro v g4 ⟨rfl, rfl⟩
  have x04 := (kk4 h.n (by omega)).trans ((kk3 h.n (by omega)).trans x0'')
  have z04 := (kk4 (h.n + 2) (by omega)).trans ((kk3 (h.n + 2) (by omega)).trans ((kk2 (h.n + 2) (by omega)).trans ((kk1 (h.n + 2) (by omega)).trans z0)))
  simp -implicitDefEqProofs (disch := (first | omega | (simp -implicitDefEqProofs only [szs, ne_eq] <;> omega) | fail)) only [go_sem, Nat.reduceAdd, Nat.reduceSub, Nat.reduceLT, Nat.reduceMod, Nat.reduceDiv, ↓reduceIte, reduceCtorEq, x04, x1, x2, hee]
  refine GCall.of (((utake_any p6.au 0 (n := 1) (by omega)).any.kept).foot (fun _ _ => trivial) (fun b hb => hW2 b (p2.fu b hb))) ?_
  rintro v g5 ⟨⟨X1, q1, hu5⟩, vf5⟩
  have n6 := vf5.n
  have kf5 : ∀ b, b < g4.n → ¬ u.foot b → g5.get b = g4.get b := vf5.get
  have x05 := (kf5 h.n (by omega) (fun hf => by have := hlt _ hf; omega)).trans x04
  have z05 := (kf5 (h.n + 2) (by omega) (fun hf => by have := hlt _ hf; omega)).trans z04
  obtain ⟨i1, i2, rfl⟩ := q1.shape
  simp -implicitDefEqProofs (disch := (first | omega | (simp -implicitDefEqProofs only [szs, ne_eq] <;> omega) | fail)) only [go_sem, Nat.reduceAdd, Nat.reduceSub, Nat.reduceLT, Nat.reduceMod, Nat.reduceDiv, ↓reduceIte, reduceCtorEq, x05, x1, x2]
  have hff : ∀ b, (u.withX X1).foot b → u.foot b := fun b hb => withX_foot q1.same.1 hb
  refine GCall.of (((uflush_any hu5 0).any.kept).foot (fun _ _ => trivial) (fun b hb => hW2 b (p2.fu b (hff b hb)))) ?_
  rintro v g6 ⟨⟨u6, q6, _⟩, vf6⟩
  have n7 := vf6.n
  have kf6 : ∀ b, b < g5.n → ¬ u.foot b → g6.get b = g5.get b := fun b hb hf => vf6.get b hb fun h => hf (hff b h)
  have x06 := (kf6 h.n (by omega) (fun hf => by have := hlt _ hf; omega)).trans x05
  have z06 := (kf6 (h.n + 2) (by omega) (fun hf => by have := hlt _ hf; omega)).trans z05
  obtain ⟨i3, rfl⟩ := q6.shape
  simp -implicitDefEqProofs (disch := (first | omega | (simp -implicitDefEqProofs only [szs, ne_eq] <;> omega) | fail)) only [go_sem, Nat.reduceAdd, Nat.reduceSub, Nat.reduceLT, Nat.reduceMod, Nat.reduceDiv, Nat.reduceLeDiff, ↓reduceIte, reduceCtorEq, z06, z1, z2, undefV]
  have kN : ∀ b, b < g4.n → ¬ u.foot b → g6.get b = g4.get b := fun b hb hf => (kf6 b (by omega) hf).trans (kf5 b hb hf)
  obtain ⟨h6, e6⟩ : ∃ h6, g6.set (h.n + 1 + 1) (O.cells (((s2.set 0 (V.ptr (some (g1.n, 0)))).set 1 (V.ptr (some (bd', 0)))).set 2 (V.ptr (some (g3.n + 1, 0)))) 29) = h6 := ⟨_, rfl⟩
  rw [e6]
  refine ⟨.inl (by omega), ?_⟩
  have n8 : h6.n = g6.n := by rw [← e6]; simp
  have kF : ∀ b, b < g4.n → ¬ u.foot b → b ≠ h.n + 2 → h6.get b = g4.get b := fun b hb hf hne => by rw [← e6, w_set_ne (by omega) (by omega)]; exact kN b hb hf
  have kk34 : ∀ b, b < g2.n → g4.get b = g2.get b := fun b hb => (kk4 b (by omega)).trans (kk3 b hb)
  have hfu : ∀ b, (UU.mk g1.n bd' tb' L' u.X u.D).foot b → h2.n ≤ b ∧ b < g2.n := by
    rintro b (hb | hb)
    · have := hf1 b hb
      omega
    · have h1 := hxl b hb
      rcases hb with rfl | ⟨a, ha, rfl⟩
      · exact ⟨n1, h1⟩
      · have h3 : g1.n ≤ tb' a := htb a ha
        exact ⟨Nat.le_trans n1 h3, h1⟩
  have hnf : ∀ b, h.n ≤ b → ¬ u.foot b := fun b hb hf => by have := hlt b hf; omega
  refine ⟨⟨g1.n, bd', tb', L', u.X, u.D⟩, _, _, _, _, _, _, _, _, _, rfl, ⟨⟨?_, ?_, p.au.fit⟩, (hx4.same fun b hb hl => kF b hl (hnf b (by omega)) (by omega)), ((hd3.old kk4).same fun b hb hl => ?_), fun b hb => ⟨p.up b (by omega), by omega, fun hs => ?_, fun hf => by have := hfu b hf; omega⟩, fun b hb => ⟨?_, ?_, fun hf => ?_⟩, fun b hb => p.up b (by have := hfu b hb; omega), p.fit, fun b hb => p.up b (by omega)⟩, (fun s => by have := few s; exact Nat.le_succ_of_le this), rfl, rfl, rfl⟩
  · exact (hx2.old kk34).same fun b hb hl => by have := hfu b (.inr hb); exact kF b hl (hnf b (by omega)) (by omega)
  · exact (hd2'.old kk34).same fun b hb hl => by have := hfu b (.inl hb); exact kF b hl (hnf b (by omega)) (by omega)
  · rcases hb with hb | hb
    · exact kF b hl (p.sd b hb).2.2 (by have := sdl b hb; omega)
    · exact kF b hl (hnf b (by omega)) (by omega)
  · rcases hs with hs | hs
    · have := sdl b hs; omega
    · omega
  · rcases hb with hb | hb
    · exact (p.sd b hb).1
    · exact p.up b (by omega)
  · rcases hb with hb | hb
    · have := sdl b hb; omega
    · omega
  · have h1 := hfu b hf
    rcases hb with hb | hb
    · have := sdl b hb; omega
    · omega
theorem do_any {K : Nat} {P : Set'} {h : Heap} {W SX SD : Set'} {u : UU} {rx rd qb hb fb pb : Nat} {hk : Nat → Nat} (p : PX P h u u.X u.D SX SD rx rd qb hb fb pb hk) (few : ∀ s, (u.D.pe s).length ≤ K) (hK : K < 900000) (hW : ∀ b, P b → W b) {kd a b c : Int} (hi : i64B a ∧ i64B b ∧ i64B c) (d kv : V) {l : List V} (hdv : BytesV h (fun b => ¬ P b ∧ b < h.n) d l) (hl : l.length ≤ 100000000) {mk : Nat} {ks kw : Nat → Int} (hkv : KeepV h (fun _ => True) kv mk ks kw) (hmk : mk ≤ 10000000) :
    SF ⟨Try.prog, true⟩ 22 [.agg [.ptr (some (u.bx, 0)), .ptr (some (u.bd, 0)), .ptr (some (rx, 0))], .agg [.int .i64 kd, .int .i64 a, .int .i64 b, .int .i64 c, d, kv]] h (fun _ => True) W (DoX P u.X K) := by
  have hd1 := hdv.one
  have hk1 := hkv.one
  obtain ⟨ia, ib, ic⟩ := hi
  by_cases h1 : kd = 1
  · subst h1; exact do_take p few hW ib.2 d kv hd1 hk1
  by_cases h2 : kd = 2
  · subst h2; exact do_give p few hW ib.2 ic.2 d kv hd1 hk1
  by_cases h3 : kd = 3
  · subst h3; exact do_write p few hK hW d kv hk1 hdv hl
  by_cases h4 : kd = 4
  · subst h4; exact do_flush p few hW d kv hd1 hk1
  by_cases h5 : kd = 5
  · subst h5; exact do_read p few hW d kv hd1 hk1
  by_cases h6 : kd = 6
  · subst h6; exact do_keeps p few hW d kv hd1 hkv hmk
  by_cases h7 : kd = 7
  · subst h7; exact do_over p few hW d kv hd1 hk1
  · exact do_other p few hW ⟨h1, h2, h3, h4, h5, h6, h7⟩ d kv hd1 hk1
end Go.Proofs.Ythdkhbhicimpdaa
