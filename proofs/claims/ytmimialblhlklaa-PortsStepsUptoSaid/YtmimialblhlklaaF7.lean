/- Ports: Come. -/
import Derived.Test.YtmimialblhlklaaF6R
set_option linter.unusedVariables false
set_option maxRecDepth 100000
namespace Go.Proofs.Ytmimialblhlklaa
open Go Go.Vm
variable {h : Heap} {R W I : Set'} {pp mp : Nat} {qs : List Nat} {T : PT}
theorem PortsAt.grow (hp : PortsAt h I pp mp qs T) {I' : Set'} (hI : ∀ k, I k → I' k) (him : ∀ k, I' k → I k ∨ ∃ c e, h.get k = some (.cells c e) ∧ e ≠ 82 ∧ e ≠ 109) : PortsAt h I' pp mp qs T := by
 obtain ⟨⟨c, c1, c2, c3, c4⟩, ip, m, pt, inj, dom, hq, imm⟩ := hp
 exact ⟨⟨c, c1, c2, c3, c4.mono fun b _ => hI b⟩, hI _ ip, m, fun a n b x e => (pt a n b x e).mono hI, inj, dom, hq, fun k hk => (him k hk).elim (imm k) id⟩
theorem takeH_all {W : Set'} {K : Heap → Prop} : ∀ (mks : List Nat) (h : Heap), mks.Nodup → (∀ m ∈ mks, h.get m = some (.deferred true) ∧ W m) → (∀ h' : Heap, h'.n = h.n → (∀ b, b ∉ mks → h'.get b = h.get b) → K h') → takeH W mks h K
 | [], h, _, _, hk => hk h rfl fun _ _ => rfl
 | b :: r, h, hn, hm, hk => by
  obtain ⟨h1, h2⟩ := hm b (by simp)
  rw [List.nodup_cons] at hn
  unfold takeH
  rw [h1]
  refine ⟨h2, takeH_all r _ hn.2 (fun m hmr => ?_) fun h' e1 e2 => ?_⟩
  ·have hne : m ≠ b := fun e => hn.1 (by rw [← e]; exact hmr)
   rw [w_set_ne (Heap.lt_of_get h1) hne]
   exact hm m (by simp [hmr])
  ·refine hk h' (by rw [e1, Heap.n_set]) fun x hx => ?_
   simp only [List.mem_cons, not_or] at hx
   rw [e2 x hx.2, w_set_ne (Heap.lt_of_get h1) hx.1]
theorem fin_all {M : MP} {R W : Set'} {rs : List ResultVar} {Q : V → Heap → Prop} {tm : Tm} {mks : List Nat} {h : Heap} (hn : mks.Nodup) (hm : ∀ m ∈ mks, h.get m = some (.deferred true) ∧ W m) (hk : ∀ h' : Heap, h'.n = h.n → (∀ b, b ∉ mks → h'.get b = h.get b) → Vm.Fin M R W rs Q .ret ⟨tm, []⟩ h') : Vm.Fin M R W rs Q .ret ⟨tm, mks⟩ h := by
 unfold Vm.Fin
 refine takeH_all mks h hn hm fun h' e1 e2 => ?_
 have := hk h' e1 e2
 unfold Vm.Fin takeH at this
 exact this
def comeL (T : PT) (l : List V) : List (Nat × Bool) := match homeP l with | some a => cL T a l (openN T (a : Int)) | none => []
def comeT (T : PT) (l : List V) : PT := match homeP l with | some a => cT T a l (openN T (a : Int)) | none => T
def ComeQ (h g : Heap) (I : Set') (pp mp : Nat) (qs : List Nat) (T : PT) (l : List V) (r : V) : Prop :=
 h.n ≤ g.n ∧ (if 64 < l.length then r = .tuple [.slice none 0 0 true, .int .i64 3] ∧ ∀ k, k < h.n → g.get k = h.get k else
  (∃ v, r = .tuple [v, .int .i64 0] ∧ OwnS 2 h.n g v (comeL T l).length (flatC (comeL T l)) 41) ∧ PortsAt g (fun k => I k ∨ Fresh h g 5 k) pp mp qs (comeT T l) ∧ ∀ k, k < h.n → (∀ a n x, T a n ≠ some (k, x)) → g.get k = h.get k)
structure ComeI (h g : Heap) (I : Set') (pp mp : Nat) (qs : List Nat) (T : PT) (a : Nat) (l : List V) (pb cb : Nat) (v vo : V) (j : Nat) : Prop where
 n : h.n ≤ g.n
 p : PortsAt g (fun k => I k ∨ Fresh h g 5 k) pp mp qs (cT T a l ((openN T (a : Int)).take j))
 c : ∃ c cv, g.get cb = some (.cells c 37) ∧ c.size = 1 ∧ c.ro = false ∧ c.get 0 = cv ∧ OwnS 2 h.n g cv (cL T a l ((openN T (a : Int)).take j)).length (flatC (cL T a l ((openN T (a : Int)).take j))) 41
 pk : g.get pb = some (.cells (Blk.of [v]) 36)
 old : ∀ k, k < h.n → (∀ a n x, T a n ≠ some (k, x)) → g.get k = h.get k
 vo : Own h.n g vo ((openL T (a : Int)).map (.int .i64)) 3
set_option maxHeartbeats 8000000 in
theorem come_loop {S : Set'} {Q : Ex → Fr → Heap → Prop} {t : List It} {v vo : V} {l : List V} {a pb cb : Nat} {tr : Tr V} {g : Heap} (hp : PortsAt h I pp mp qs T) (hv : LR h S v l) (hS : ∀ k, S k → k < h.n ∧ ∀ a n x, T a n ≠ some (k, x)) (hF : Fit T) (hby : Byt l) (h64 : l.length ≤ 64) (hR : ∀ b, R b) (hW : ∀ b, h.n ≤ b ∨ MutB mp T b → W b) (hcb : h.n ≤ cb) (hpb : h.n ≤ pb)
  (t0 : tr.get 0 = some (.ptr (some (pp, 0)))) (t3 : tr.get 3 = some (.ptr (some (pb, 0)))) (t6 : tr.get 6 = some (.int .i64 (a : Int))) (t8 : tr.get 8 = some (.ptr (some (cb, 0)))) (t29 : tr.get 29 = some vo) (t30 : tr.get 30 = some (.int .i64 ((openN T (a : Int)).length : Int))) (t31 : tr.get 31 = some (.int .i64 0))
  (hI : ComeI h g I pp mp qs T a l pb cb v vo 0)
  (hk : ∀ tr mks g, mks.Nodup → (∀ m ∈ mks, h.n ≤ m ∧ g.get m = some (.deferred true)) → tr.get 8 = some (.ptr (some (cb, 0))) → ComeI h g I pp mp qs T a l pb cb v vo (openN T (a : Int)).length → resume ⟨Try.prog, true⟩ R W none Q t (.exit 1) ⟨⟨63, tr⟩, mks⟩ g) :
  GLoop ⟨Try.prog, true⟩ R W none Q ir12_l0 t ⟨⟨63, tr⟩, []⟩ g := by
 refine GLoop.inv hm (fun k f g => (f.mks.Nodup ∧ ∀ m ∈ f.mks, h.n ≤ m ∧ g.get m = some (.deferred true)) ∧ f.tm.n = 63 ∧ f.tm.get 0 = some (.ptr (some (pp, 0))) ∧ f.tm.get 3 = some (.ptr (some (pb, 0))) ∧ f.tm.get 6 = some (.int .i64 (a : Int)) ∧ f.tm.get 8 = some (.ptr (some (cb, 0))) ∧ f.tm.get 29 = some vo ∧ f.tm.get 30 = some (.int .i64 ((openN T (a : Int)).length : Int)) ∧ ∃ j : Nat, j + k = (openN T (a : Int)).length ∧ f.tm.get 31 = some (.int .i64 (j : Int)) ∧ ComeI h g I pp mp qs T a l pb cb v vo j) (openN T (a : Int)).length ?_ ?_
 ·exact ⟨⟨List.nodup_nil, fun m hm => by cases hm⟩, rfl, t0, t3, t6, t8, t29, t30, 0, by omega, t31, hI⟩
 clear t0 t3 t6 t8 t29 t30 t31 hI tr g
 rintro k ⟨⟨n', tr⟩, mks⟩ g ⟨⟨hmn, hmm⟩, hn', t0, t3, t6, t8, t29, t30, j, hjk, t31, hI⟩
 simp only [Tm.get_mk] at hmn hmm hn' t0 t3 t6 t8 t29 t30 t31
 subst hn'
 have hol := openN_len T (a : Int)
 by_cases hj : j < (openN T (a : Int)).length
 rotate_left
 ·obtain rfl : j = (openN T (a : Int)).length := by omega
  simp -implicitDefEqProofs (disch := (first | omega | (simp -implicitDefEqProofs only [szs, ne_eq] <;> omega) | fail)) only [go_sem, seval, ↓reduceIte, ir12_l0, t30, t31]
  exact hk _ mks g hmn hmm (by simp -implicitDefEqProofs (disch := (first | omega | (simp -implicitDefEqProofs only [szs, ne_eq] <;> omega) | fail)) only [go_sem, seval, ↓reduceIte, t8]) hI
 have hz : (j : Int) < ((openN T (a : Int)).length : Int) := by omega
 obtain ⟨n, hn⟩ : ∃ n, (openN T (a : Int))[j]? = some n := ⟨_, List.getElem?_eq_getElem hj⟩
 obtain ⟨b, x, hT⟩ := mem_openN (List.mem_of_getElem? hn)
 have hnP : n ∉ (openN T (a : Int)).take j := fun hm => by
  have h1 := openN_nodup T (a : Int)
  rw [← List.take_append_drop j (openN T (a : Int)), List.nodup_append] at h1
  have h2 : n ∈ (openN T (a : Int)).drop j := by
   rw [List.drop_eq_getElem_cons hj]
   rw [List.getElem?_eq_getElem hj] at hn
   exact List.mem_cons.2 (.inl (Option.some.inj hn).symm)
  exact h1.2.2 n hm n h2 rfl
 have htk : (openN T (a : Int)).take (j + 1) = (openN T (a : Int)).take j ++ [n] := by rw [List.take_add_one, hn]; rfl
 have hlen0 : ((openL T (a : Int)).map (V.int .i64)).length = (openN T (a : Int)).length := by simp [openL]
 obtain ⟨ob, oo, cap, ex, oc, oce, hvoe, _, o1, o2, o3⟩ := hI.vo.lr.get (i := j) (by rw [hlen0]; exact hj)
 rw [hlen0] at hvoe o2
 have o3' : oc.get (oo + j) = .int .i64 (n : Int) := by
  rw [o3, List.getD_eq_getElem?_getD, List.getElem?_map]
  simp only [openL, List.getElem?_map, hn, Option.map_some, Option.getD_some]
 obtain ⟨cP, p1, p2, p3, p4⟩ := hI.p.c
 obtain ⟨d8, cv, e8, s8, r8, v8, ho⟩ := hI.c
 rw [hvoe] at t29
 have hRo := hR ob
 have hj0 : (0 : Int) ≤ (j : Int) := by omega
 have hWn := hW g.n (.inl hI.n)
 obtain ⟨g1, e1, n1, b1, k1⟩ : ∃ g1, (g.push (O.cells (Blk.of [V.int IntKind.i64 0]) 3)).set g.n (O.cells ((Blk.of [V.int IntKind.i64 0]).set 0 (V.int IntKind.i64 (n : Int))) 3) = g1 ∧ g1.n = g.n + 1 ∧ (∃ c, g1.get g.n = some (O.cells c 3) ∧ c.size = 1 ∧ c.get 0 = .int .i64 (n : Int)) ∧ ∀ b, b < g.n → g1.get b = g.get b := ⟨_, rfl, by simp, ⟨_, w_set_eq (by simp) rfl _, rfl, w_bset_eq rfl _⟩, fun b hb => by rw [w_set_ne (by simp) (by omega), w_push_ne (by omega)]⟩
 obtain ⟨d10, e10, s10, v10⟩ := b1
 have hp1 := hI.p.old k1
 have hlk := hp1.look (a : Int) (n : Int)
 have hcT : lookT (cT T a l ((openN T (a : Int)).take j)) (a : Int) (n : Int) = some (b, x) := by
  rw [lookT, if_pos ⟨by omega, by omega⟩, Int.toNat_natCast, Int.toNat_natCast, cT_at T a l hnP, hT]
 rw [hcT] at hlk
 have hlk' : lookV Try.prog 66 g1 (.map (some mp)) (.agg [.int .i64 (a : Int), .int .i64 (n : Int)]) false = some (.ptr (some (b, 0)), [mp]) := hlk
 have q1 := (k1 pp (Heap.lt_of_get p1)).trans p1
 have hRp := hR pp; have hRm := hR mp; have hRg := hR g.n
 obtain ⟨g2, e2, n2, x2, k2⟩ : ∃ g2, (g1.push (O.cells (Blk.of [V.ptr none]) 76)).set g1.n (O.cells ((Blk.of [V.ptr none]).set 0 (V.ptr (some (b, 0)))) 76) = g2 ∧ g2.n = g1.n + 1 ∧ (∃ c, g2.get g1.n = some (O.cells c 76) ∧ c.size = 1 ∧ c.get 0 = .ptr (some (b, 0))) ∧ ∀ b, b < g1.n → g2.get b = g1.get b := ⟨_, rfl, by simp, ⟨_, w_set_eq (by simp) rfl _, rfl, w_bset_eq rfl _⟩, fun b hb => by rw [w_set_ne (by simp) (by omega), w_push_ne (by omega)]⟩
 obtain ⟨d11, e11, s11, v11⟩ := x2
 have k02 : ∀ b, b < g.n → g2.get b = g.get b := fun b hb => by rw [k2 b (by omega), k1 b hb]
 have hP2 := hI.p.old k02
 have hcTb : cT T a l ((openN T (a : Int)).take j) a n = some (b, x) := by rw [cT_at T a l hnP, hT]
 obtain ⟨c, f, c1, c2, c3, c4, _⟩ := (hP2.pt a n b x hcTb).c
 have pk2 := (k02 pb (Heap.lt_of_get hI.pk)).trans hI.pk
 have hvo := hv.one
 have hvc := hv.cells
 have hto := LRs.one c4
 have hRb := hR b; have hRpb := hR pb; have hRx := hR g1.n
 have hWx := hW g1.n (.inl (by have := hI.n; omega))
 have ppl := Heap.lt_of_get p1
 have mpl := hI.p.lt.2
 have npb := Heap.lt_of_get hI.pk
 have nb2 := Heap.lt_of_get c1
 simp -implicitDefEqProofs (disch := (first | omega | (simp -implicitDefEqProofs only [szs, ne_eq] <;> omega) | fail)) only [go_sem, seval, ↓reduceIte, reduceCtorEq, ir12_l0, t0, t3, t6, t29, t30, t31, hz, hj0, o1, o3', hRo, hWn, e1, undefV, e10, s10, v10, q1, p2, p3, hlk', e2, e11, s11, v11, c1, c2, pk2, ↓hvc]
 refine ⟨?_, ⟨fun _ => hRp, fun _ => hRg, fun _ => hRm, fun _ => hWx⟩, ?_⟩
 ·simp only [List.not_mem_nil, and_false, false_or, or_false, not_false_eq_true, implies_true, false_implies, and_self]
  all_goals (intros; omega)
 have kI : ∀ k, I k → k < h.n ∧ g.get k = h.get k := fun k hk => by
  obtain ⟨c, e, h1, _⟩ := hp.imm k hk
  exact ⟨Heap.lt_of_get h1, hI.old k (Heap.lt_of_get h1) fun a n x e => hp.ne82 hk e rfl⟩
 have hvg : LR g S v l := hv.same fun k hk _ => hI.old k (hS k hk).1 (hS k hk).2
 have hvg2 : LR g2 S v l := hvg.old k02
 refine GCallD.of (R' := fun _ => True) (W' := fun _ => False) (((pass_ok (R := fun _ => True) (W := fun _ => False) (pb := g2.n) (vp := v) (l := l) (L := x.ts) (w_push_eq rfl _) (hvg2.old fun b hb => w_push_ne (by omega) _) hby (by omega) (LRs.old c4 fun b hb => w_push_ne (by omega) _) (by have := (hF a n b x hT).1.1; omega) (fun _ => trivial)).any.kept).foot (fun _ h => h) (fun _ h => h)) ?_
 rintro r g3 ⟨⟨⟨lb, fb, rfl, hpa⟩, n3, k3⟩, _⟩
 simp only [Heap.n_push] at n3 k3 hpa
 have k03 : ∀ k, k < g.n → g3.get k = g.get k := fun k hk => by rw [k3 k (by omega), w_push_ne (by omega), k02 k hk]
 have k23 : ∀ k, k < g2.n → g3.get k = g2.get k := fun k hk => by rw [k3 k (by omega), w_push_ne (by omega)]
 have hIn := hI.n
 have hcl := cL_len T a l ((openN T (a : Int)).take j)
 have hcl2 : ((openN T (a : Int)).take j).length ≤ 16 := by rw [List.length_take]; omega
 have hxg := hI.p.pt a n b x hcTb
 obtain ⟨dx, ex⟩ := hxg.cells
 have hne8b : cb ≠ b := fun e => by rw [e, ex] at e8; cases e8
 have hIc : ∀ k, I k ∨ Fresh h g 5 k → (∃ c e, g.get k = some (.cells c e)) ∧ k ≠ b ∧ k ≠ cb ∧ (k < h.n ∨ ∃ c, g.get k = some (.cells c 5)) := fun k hk => by
  obtain ⟨c, e, h1, _⟩ := hI.p.imm k hk
  refine ⟨⟨c, e, h1⟩, hI.p.ne82 hk hcTb, ?_, ?_⟩
  ·rcases hk with hk | ⟨_, c', hk⟩
   ·have := (kI k hk).1; omega
   ·intro e0; rw [e0, e8] at hk; cases hk
  ·rcases hk with hk | ⟨_, hk⟩
   ·exact .inl (kI k hk).1
   ·exact .inr hk
 simp -implicitDefEqProofs (disch := (first | omega | (simp -implicitDefEqProofs only [szs, ne_eq] <;> omega) | fail)) only [go_sem, seval, ↓reduceIte]
 refine ⟨?_, ⟨fun _ => hRx, fun _ => hRb, fun _ => hRpb, fun b _ _ => hR b, fun b _ h => h.elim⟩, ?_⟩
 ·simp only [List.not_mem_nil, and_false, false_or, or_false, not_false_eq_true, implies_true, false_implies, and_self]
  all_goals (intros; omega)
 refine come_range (I := fun k => I k ∨ Fresh h g 5 k) (S := S) (nb := g.n) (xb := g1.n) (n0 := h.n) (n := n) (x := x) (l := l) (cv := cv) hR (fun k hk => hW k (.inl hk)) (hW b (.inr (.inr ⟨a, n, x, hT⟩))) (by simp -implicitDefEqProofs (disch := (first | omega | (simp -implicitDefEqProofs only [szs, ne_eq] <;> omega) | fail)) only [go_sem, seval, ↓reduceIte]) (by simp -implicitDefEqProofs (disch := (first | omega | (simp -implicitDefEqProofs only [szs, ne_eq] <;> omega) | fail)) only [go_sem, seval, ↓reduceIte, t3]) (by simp -implicitDefEqProofs (disch := (first | omega | (simp -implicitDefEqProofs only [szs, ne_eq] <;> omega) | fail)) only [go_sem, seval, ↓reduceIte, t8]) (by simp -implicitDefEqProofs (disch := (first | omega | (simp -implicitDefEqProofs only [szs, ne_eq] <;> omega) | fail)) only [go_sem, seval, ↓reduceIte]) (by simp -implicitDefEqProofs (disch := (first | omega | (simp -implicitDefEqProofs only [szs, ne_eq] <;> omega) | fail)) only [go_sem, seval, ↓reduceIte]) ⟨d8, (k03 _ (Heap.lt_of_get e8)).trans e8, s8, r8, v8⟩ (ho.old k03) (by omega) hcb (by omega) ⟨d10, (k23 _ (by omega)).trans ((k2 _ (by omega)).trans e10), s10, v10⟩ ⟨d11, (k23 _ (by omega)).trans e11, s11, v11⟩ ⟨_, v, (k03 pb npb).trans hI.pk, rfl, rfl, hvg.old k03⟩ (fun k hk => (hS k hk).1) hby h64 (hxg.same (k03 b (Heap.lt_of_get ex)) fun k hk hlt => k03 k hlt) (fun k hk => ?_) hpa ?_
 ·obtain ⟨⟨c, e, h1⟩, h2, h3, h4⟩ := hIc k hk
  have hk1 := Heap.lt_of_get h1
  exact ⟨⟨c, e, (k03 k hk1).trans h1⟩, h2, h3, h4.imp id fun ⟨c, e⟩ => ⟨c, (k03 k hk1).trans e⟩⟩
 intro g4 m4 n4 hq
 have kq : ∀ k, k < g.n → k ≠ cb → k ≠ b → (k < h.n ∨ ∀ c, g.get k ≠ some (.cells c 41)) → g4.get k = g.get k := fun k h1 h2 h3 h4 => by
  by_cases hm : matchP x.ts l = true
  ·rw [if_pos hm] at hq
   rw [hq.old k (by omega) h2 h3 (h4.imp id fun h4 c e => h4 c ((k03 k h1).symm.trans e)), k03 k h1]
  ·rw [if_neg hm] at hq
   rw [hq k (by omega), k03 k h1]
 have kt : ∀ k c e, g.get k = some (.cells c e) → e ≠ 37 → e ≠ 82 → e ≠ 41 → g4.get k = some (.cells c e) := fun k c e h1 h2 h3 h4 => by
  rw [kq k (Heap.lt_of_get h1) (fun e0 => h2 (by rw [e0, e8] at h1; cases h1; rfl)) (fun e0 => h3 (by rw [e0, ex] at h1; cases h1; rfl)) (.inr fun c' e' => h4 (by rw [h1] at e'; cases e'; rfl))]
  exact h1
 have kIg : ∀ k, I k ∨ Fresh h g 5 k → g4.get k = g.get k := fun k hk => by
  obtain ⟨⟨c, e, h1⟩, h2, h3, h4⟩ := hIc k hk
  exact kq k (Heap.lt_of_get h1) h3 h2 (h4.imp id fun ⟨c', e⟩ c'' e'' => by rw [e] at e''; cases e'')
 simp -implicitDefEqProofs (disch := (first | omega | (simp -implicitDefEqProofs only [szs, ne_eq] <;> omega) | fail)) only [go_sem, seval, ↓reduceIte, reduceCtorEq, t0, t3, t6, t8, t29, t30, t31]
 refine ⟨k - 1, by omega, ⟨List.nodup_cons.2 ⟨fun hm => by have := Heap.lt_of_get (hmm _ hm).2; omega, hmn⟩, fun m hm => ?_⟩, hvoe.symm, j + 1, by omega, by simp, ?_⟩
 ·rcases List.mem_cons.1 hm with rfl | hm
  ·exact ⟨by omega, m4⟩
  ·obtain ⟨h1, h2⟩ := hmm m hm
   exact ⟨h1, by rw [kq m (Heap.lt_of_get h2) (fun e0 => by rw [e0, e8] at h2; cases h2) (fun e0 => by rw [e0, ex] at h2; cases h2) (.inr fun c e => by rw [h2] at e; cases e)]; exact h2⟩
 have hfr : ∀ k, I k ∨ Fresh h g 5 k → I k ∨ Fresh h g4 5 k := fun k hk => by
  rcases hk with hk | hk
  ·exact .inl hk
  ·exact .inr ⟨hk.1, by obtain ⟨c, e⟩ := hk.2; exact ⟨c, (kIg k (.inr hk)).trans e⟩⟩
 have hfr2 : ∀ k, I k ∨ Fresh h g4 5 k → (I k ∨ Fresh h g 5 k) ∨ ∃ c e, g4.get k = some (.cells c e) ∧ e ≠ 82 ∧ e ≠ 109 := fun k hk => by
  rcases hk with hk | ⟨_, c, e⟩
  ·exact .inl (.inl hk)
  ·exact .inr ⟨c, 5, e, by decide⟩
 refine ⟨by omega, ?_, ?_, kt _ _ _ hI.pk (by decide) (by decide) (by decide), fun k h1 h2 => ?_, hI.vo.keep fun k c h1 => kt _ _ _ h1 (by decide) (by decide) (by decide)⟩
 ·rw [htk, cT_snoc hT hnP]
  by_cases hm : matchP x.ts l = true
  ·rw [if_pos hm] at hq ⊢
   refine (hI.p.old k03).put2 hcTb hfr (fun k h1 h2 h3 => ?_) (hq.p.mono fun k h1 => ?_) hfr2
   ·have key : k < g.n → g4.get k = g.get k → g4.get k = g3.get k := fun h4 h5 => h5.trans (k03 k h4).symm
    rcases h1 with h1 | h1 | ⟨a', n', x', h1⟩
    ·obtain ⟨⟨c, e, h4⟩, _⟩ := hIc k h1
     exact key (Heap.lt_of_get h4) (kIg k h1)
    ·obtain ⟨es, ck, h4, _⟩ := hI.p.m
     subst h1
     exact key (Heap.lt_of_get h4) (kq k (Heap.lt_of_get h4) (fun e0 => by rw [e0, e8] at h4; cases h4) h3 (.inr fun c e => by rw [h4] at e; cases e))
    ·obtain ⟨c, h4⟩ := (hI.p.pt a' n' k x' h1).cells
     exact key (Heap.lt_of_get h4) (kq k (Heap.lt_of_get h4) (fun e0 => by rw [e0, e8] at h4; cases h4) h3 (.inr fun c e => by rw [h4] at e; cases e))
   ·rcases h1 with h1 | h1
    ·exact hfr k h1
    ·exact .inr ⟨by have := h1.1; omega, h1.2⟩
  ·rw [if_neg hm] at hq ⊢
   exact ((hI.p.old k03).old hq).grow hfr hfr2
 ·rw [htk, cL_snoc T a l _ n hT]
  by_cases hm : matchP x.ts l = true
  ·rw [if_pos hm] at hq ⊢
   obtain ⟨c, cv', q1, q2, q3, q4, q5⟩ := hq.c
   refine ⟨c, cv', q1, q2, q3, q4, ?_⟩
   rw [flatC_snoc, List.length_append]
   exact q5
  ·rw [if_neg hm] at hq ⊢
   exact ⟨d8, cv, by rw [hq cb (by have := Heap.lt_of_get e8; omega), k03 cb (Heap.lt_of_get e8)]; exact e8, s8, r8, v8, (ho.old k03).old hq⟩
 ·rw [kq k (by omega) (by omega) (fun e0 => h2 a n x (by rw [hT, e0])) (.inl h1)]
  exact hI.old k h1 h2
set_option maxHeartbeats 4000000 in
theorem come_dem {S : Set'} {v : V} {l : List V} (hp : PortsAt h I pp mp qs T) (hv : LR h S v l) (hS : ∀ k, S k → k < h.n ∧ ∀ a n x, T a n ≠ some (k, x)) (hF : Fit T) (hby : Byt l) (hR : ∀ b, R b) (hW : ∀ b, h.n ≤ b ∨ MutB mp T b → W b) : SF ⟨Try.prog, true⟩ 12 [.ptr (some (pp, 0)), v] h R W fun r g => ComeQ h g I pp mp qs T l r := by
 have hlen := hv.lenV Try.underlying36
 have hvo := hv.one
 have hvc := hv.cells
 have hlt := hp.lt
 refine SF.go hm Try.func12 ir12_eq ?_
 simp -implicitDefEqProofs (disch := (first | omega | (simp -implicitDefEqProofs only [szs, ne_eq] <;> omega) | fail)) only [go_sem, seval, ↓reduceIte, reduceCtorEq, ir12, ↓hvc]
 obtain ⟨h0, e0⟩ : ∃ h0, h0 = h.push (.cells (Blk.of [v]) 36) := ⟨_, rfl⟩
 rw [← e0]
 have n0 : h0.n = h.n + 1 := by rw [e0]; simp
 have p0 : h0.get h.n = some (.cells (Blk.of [v]) 36) := by rw [e0]; exact w_push_eq rfl _
 have k0 : ∀ b, b < h.n → h0.get b = h.get b := fun b hb => by rw [e0, w_push_ne (by omega)]
 clear e0
 have hp0 := hp.old k0
 have hv0 := hv.old k0
 have hRn := hR h.n
 refine GCall.of (there_ok hp0 (.inr (hR _))).any ?_
 rintro r h' ⟨rfl, rfl⟩
 by_cases h64 : 64 < l.length
 ·have hz : (64 : Int) < (l.length : Int) := by omega
  simp -implicitDefEqProofs (disch := (first | omega | (simp -implicitDefEqProofs only [szs, ne_eq] <;> omega) | fail)) only [go_sem, seval, ↓reduceIte, reduceCtorEq, p0, ↓hlen, hz, ComeQ, h64]
  exact ⟨by omega, k0⟩
 have hz : ¬ (64 : Int) < (l.length : Int) := by omega
 simp -implicitDefEqProofs (disch := (first | omega | (simp -implicitDefEqProofs only [szs, ne_eq] <;> omega) | fail)) only [go_sem, seval, ↓reduceIte, reduceCtorEq, p0, ↓hlen, hz]
 refine GCall.of (home_ok hv0 hby (fun _ => .inr (hR _))).any ?_
 rintro r h1 ⟨rfl, rfl⟩
 cases hh : homeP l with
 | none =>
  simp only [homeV, hh]
  simp -implicitDefEqProofs (disch := (first | omega | (simp -implicitDefEqProofs only [szs, ne_eq] <;> omega) | fail)) only [go_sem, seval, ↓reduceIte, reduceCtorEq]
  refine ⟨by omega, ?_⟩
  rw [if_neg h64]
  unfold comeL comeT
  rw [hh]
  exact ⟨⟨_, rfl, OwnS.nil _ _ _ _⟩, hp0.grow (fun k hk => .inl hk) (fun k hk => hk.imp id fun ⟨_, c, e⟩ => ⟨c, 5, e, by decide⟩), fun k hk _ => k0 k hk⟩
 | some a =>
  simp only [homeV, hh]
  simp -implicitDefEqProofs (disch := (first | omega | (simp -implicitDefEqProofs only [szs, ne_eq] <;> omega) | fail)) only [go_sem, seval, ↓reduceIte, reduceCtorEq]
  refine GCall.of (open_dem (hp0.old (h' := h1.push _) fun b hb => w_push_ne (by omega) _) (fun _ _ => .inr (hR _)) (a : Int)) ?_
  rintro vo g ⟨kO, nO, hvO, _⟩
  simp only [Heap.n_push] at kO nO
  have kg : ∀ k, k < h.n → g.get k = h.get k := fun k hk => by rw [kO k (by omega), w_push_ne (by omega), k0 k hk]
  have cg : g.get h1.n = some (.cells (Blk.of [V.slice none 0 0 true]) 37) := by rw [kO _ (by omega)]; exact w_push_eq rfl _
  have pg : g.get h.n = some (.cells (Blk.of [v]) 36) := by rw [kO _ (by omega), w_push_ne (by omega)]; exact p0
  have hol := hvO.lr.lenV Try.underlying30
  have hl0 : ((openL T (a : Int)).map (V.int .i64)).length = (openN T (a : Int)).length := by simp [openL]
  rw [hl0] at hol
  have hRc := hR h1.n
  simp -implicitDefEqProofs (disch := (first | omega | (simp -implicitDefEqProofs only [szs, ne_eq] <;> omega) | fail)) only [go_sem, seval, ↓reduceIte, reduceCtorEq, ↓hol]
  refine come_loop (S := S) (v := v) (vo := vo) (l := l) (a := a) (pb := h.n) (cb := h1.n) hp hv hS hF hby (by omega) (fun b => .inr (hR b)) (fun b hb => hb.elim .inl fun h => .inr (hW b (.inr h))) (by omega) (Nat.le_refl _) (by simp -implicitDefEqProofs (disch := (first | omega | (simp -implicitDefEqProofs only [szs, ne_eq] <;> omega) | fail)) only [go_sem, seval, ↓reduceIte]) (by simp -implicitDefEqProofs (disch := (first | omega | (simp -implicitDefEqProofs only [szs, ne_eq] <;> omega) | fail)) only [go_sem, seval, ↓reduceIte, reduceCtorEq]) (by simp -implicitDefEqProofs (disch := (first | omega | (simp -implicitDefEqProofs only [szs, ne_eq] <;> omega) | fail)) only [go_sem, seval, ↓reduceIte, reduceCtorEq]) (by simp -implicitDefEqProofs (disch := (first | omega | (simp -implicitDefEqProofs only [szs, ne_eq] <;> omega) | fail)) only [go_sem, seval, ↓reduceIte, reduceCtorEq]) (by simp -implicitDefEqProofs (disch := (first | omega | (simp -implicitDefEqProofs only [szs, ne_eq] <;> omega) | fail)) only [go_sem, seval, ↓reduceIte, reduceCtorEq]) (by simp -implicitDefEqProofs (disch := (first | omega | (simp -implicitDefEqProofs only [szs, ne_eq] <;> omega) | fail)) only [go_sem, seval, ↓reduceIte, reduceCtorEq]) (by simp -implicitDefEqProofs (disch := (first | omega | (simp -implicitDefEqProofs only [szs, ne_eq] <;> omega) | fail)) only [go_sem, seval, ↓reduceIte, reduceCtorEq]) ?_ ?_
  ·refine ⟨by omega, ?_, ⟨_, _, cg, rfl, rfl, rfl, ?_⟩, pg, fun k hk _ => kg k hk, hvO.mono (by simp; omega)⟩
   ·rw [List.take_zero, cT_nil]
    exact (hp.old kg).grow (fun k hk => .inl hk) (fun k hk => hk.imp id fun ⟨_, c, e⟩ => ⟨c, 5, e, by decide⟩)
   ·exact OwnS.nil _ _ _ _
  ·intro tr mks g2 hmn hmm t8 hI
   obtain ⟨d8, cv, e8, s8, r8, v8, ho⟩ := hI.c
   have hco := ho.lr.one
   rw [List.take_length] at ho
   simp -implicitDefEqProofs (disch := (first | omega | (simp -implicitDefEqProofs only [szs, ne_eq] <;> omega) | fail)) only [go_sem, seval, ↓reduceIte, t8, e8, s8, v8]
   refine ⟨.inr hRc, fin_all hmn (fun m hm => ⟨(hmm m hm).2, Or.inl (hmm m hm).1⟩) fun h' en ek => ?_⟩
   have kd : ∀ k c e, g2.get k = some (.cells c e) → h'.get k = some (.cells c e) := fun k c e h1 => by
    rw [ek k (fun hm => by rw [(hmm k hm).2] at h1; cases h1)]; exact h1
   have hIn := hI.n
   simp -implicitDefEqProofs (disch := (first | omega | (simp -implicitDefEqProofs only [szs, ne_eq] <;> omega) | fail)) only [go_sem, seval, ↓reduceIte]
   refine ⟨by omega, ?_⟩
   rw [if_neg h64]
   unfold comeL comeT
   rw [hh]
   refine ⟨⟨_, rfl, ho.keep fun k c h1 _ => kd k c _ h1⟩, ?_, fun k h1 h2 => ?_⟩
   ·have hpp := hI.p
    rw [List.take_length] at hpp
    refine (hpp.same fun k h1 h2 => ek k fun hm => ?_).grow (fun k hk => hk.imp id fun ⟨h3, c, e⟩ => ⟨h3, c, kd _ _ _ e⟩) (fun k hk => hk.elim (fun h => .inl (.inl h)) fun ⟨_, c, e⟩ => .inr ⟨c, 5, e, by decide⟩)
    have hmk := (hmm k hm).2
    rcases h1 with h1 | h1 | ⟨a', n', x', h1⟩
    ·obtain ⟨c, e, h4, _⟩ := hpp.imm k h1
     rw [hmk] at h4; cases h4
    ·obtain ⟨es, ck, h4, _⟩ := hpp.m
     rw [← h1, hmk] at h4; cases h4
    ·obtain ⟨c, h4⟩ := (hpp.pt a' n' k x' h1).cells
     rw [hmk] at h4; cases h4
   ·rw [ek k (fun hm => by have := (hmm k hm).1; omega)]
    exact hI.old k h1 h2
end Go.Proofs.Ytmimialblhlklaa
