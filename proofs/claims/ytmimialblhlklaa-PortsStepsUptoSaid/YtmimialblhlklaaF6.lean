/- Ports: what Come does, plain; a round of it. -/
import Derived.Test.YtmimialblhlklaaF5
set_option linter.unusedVariables false
set_option maxRecDepth 100000
namespace Go.Proofs.Ytmimialblhlklaa
open Go Go.Vm
variable {h : Heap} {R W I : Set'} {pp mp : Nat} {qs : List Nat} {T : PT}
def cT (T : PT) (a : Nat) (l : List V) (P : List Nat) : PT := fun a' n => (T a' n).map fun y => (y.1, if a' = a ∧ n ∈ P ∧ matchP y.2.ts l = true then y.2.put l else y.2)
def cL (T : PT) (a : Nat) (l : List V) (P : List Nat) : List (Nat × Bool) := P.flatMap fun n => match T a n with
 | some y => if matchP y.2.ts l then [(n, decide (y.2.ring.length = 8))] else []
 | none => []
def flatC (L : List (Nat × Bool)) : List V := L.flatMap fun c => [.int .i64 (c.1 : Int), .bool c.2]
theorem flatC_snoc (L : List (Nat × Bool)) (n : Nat) (b : Bool) : flatC (L ++ [(n, b)]) = flatC L ++ [.int .i64 (n : Int), .bool b] := by
 unfold flatC; rw [List.flatMap_append]; rfl
theorem cL_snoc (T : PT) (a : Nat) (l : List V) (P : List Nat) (n : Nat) {y : Nat × Pt} (e : T a n = some y) : cL T a l (P ++ [n]) = if matchP y.2.ts l then cL T a l P ++ [(n, decide (y.2.ring.length = 8))] else cL T a l P := by
 unfold cL
 rw [List.flatMap_append, List.flatMap_cons, List.flatMap_nil, List.append_nil, e]
 simp only []
 split
 ·rfl
 ·rw [List.append_nil]
theorem cL_len (T : PT) (a : Nat) (l : List V) (P : List Nat) : (cL T a l P).length ≤ P.length := by
 unfold cL
 induction P with
 | nil => simp
 | cons n P ih =>
  rw [List.flatMap_cons, List.length_append, List.length_cons]
  have : (match T a n with
   | some y => if matchP y.2.ts l then [(n, decide (y.2.ring.length = 8))] else []
   | none => ([] : List (Nat × Bool))).length ≤ 1 := by
   split
   ·split <;> simp
   ·simp
  omega
theorem cT_none {T : PT} {a : Nat} {l : List V} {P : List Nat} {a' n : Nat} (e : T a' n = none) : cT T a l P a' n = none := by unfold cT; rw [e]; rfl
theorem cT_some {T : PT} {a : Nat} {l : List V} {P : List Nat} {a' n : Nat} {y : Nat × Pt} (e : T a' n = some y) : cT T a l P a' n = some (y.1, if a' = a ∧ n ∈ P ∧ matchP y.2.ts l = true then y.2.put l else y.2) := by unfold cT; rw [e]; rfl
theorem cT_nil (T : PT) (a : Nat) (l : List V) : cT T a l [] = T := by
 funext a' n
 cases e : T a' n with
 | none => exact cT_none e
 | some y => rw [cT_some e, if_neg (fun h => by simpa using h.2.1)]
theorem cT_at (T : PT) (a : Nat) (l : List V) {P : List Nat} {n : Nat} (hn : n ∉ P) : cT T a l P a n = T a n := by
 cases e : T a n with
 | none => exact cT_none e
 | some y => rw [cT_some e, if_neg (fun h => hn h.2.1)]
theorem cT_snoc {T : PT} {a : Nat} {l : List V} {P : List Nat} {n b : Nat} {x : Pt} (e : T a n = some (b, x)) (hn : n ∉ P) : cT T a l (P ++ [n]) = if matchP x.ts l = true then updT (cT T a l P) a n (some (b, x.put l)) else cT T a l P := by
 have other : ∀ a' n', ¬ (a' = a ∧ n' = n) → cT T a l (P ++ [n]) a' n' = cT T a l P a' n' := fun a' n' h => by
  cases e2 : T a' n' with
  | none => rw [cT_none e2, cT_none e2]
  | some y =>
   rw [cT_some e2, cT_some e2]
   have : (a' = a ∧ n' ∈ P ++ [n] ∧ matchP y.2.ts l = true) = (a' = a ∧ n' ∈ P ∧ matchP y.2.ts l = true) := propext ⟨fun ⟨h1, h2, h3⟩ => ⟨h1, by
    rcases List.mem_append.1 h2 with h4 | h4
    ·exact h4
    ·exact absurd ⟨h1, List.mem_singleton.1 h4⟩ h, h3⟩, fun ⟨h1, h2, h3⟩ => ⟨h1, List.mem_append_left _ h2, h3⟩⟩
   simp only [this]
 funext a' n'
 by_cases h1 : a' = a ∧ n' = n
 ·obtain ⟨rfl, rfl⟩ := h1
  by_cases hm : matchP x.ts l = true
  ·rw [if_pos hm, cT_some e, if_pos ⟨rfl, List.mem_append_right _ (List.mem_singleton_self _), hm⟩]
   unfold updT
   rw [if_pos ⟨rfl, rfl⟩]
  ·rw [if_neg hm, cT_some e, cT_some e, if_neg (fun h => hm h.2.2), if_neg (fun h => hm h.2.2)]
 ·rw [other a' n' h1]
  split
  ·unfold updT; rw [if_neg h1]
  ·rfl
theorem mem_openN {T : PT} {a n : Nat} (h : n ∈ openN T (a : Int)) : ∃ b x, T a n = some (b, x) := by
 unfold openN at h
 simp only [List.mem_filter, List.mem_range] at h
 have h2 := h.2
 rw [lookT, if_pos ⟨by omega, by omega⟩, Int.toNat_natCast, Int.toNat_natCast] at h2
 cases e : T a n with
 | none => rw [e] at h2; simp at h2
 | some y => exact ⟨y.1, y.2, rfl⟩
theorem openN_nodup (T : PT) (a : Int) : (openN T a).Nodup := List.Nodup.sublist List.filter_sublist List.nodup_range
theorem openN_len (T : PT) (a : Int) : (openN T a).length ≤ 16 := by
 have := List.length_filter_le (fun n : Nat => (lookT T a (n : Int)).isSome) (List.range 16)
 unfold openN; simpa using this
theorem app_came {g : Heap} {n0 m : Nat} {v : V} {l : List V} {x : Int} {y : Bool} (ho : OwnS 2 n0 g v m l 41) (hn : n0 ≤ g.n) (hm : m ≤ 100000000) :
  ∃ v2 h2 r w, appE 41 2 16 v (.slice (some (g.n, 0)) 1 1 true) (g.push (.cells (Blk.of [.int .i64 x, .bool y]) 41)) = some ⟨v2, h2, r, w⟩ ∧ g.n ≤ h2.n ∧ OwnS 2 n0 h2 v2 (m + 1) (l ++ [.int .i64 x, .bool y]) 41 ∧ (∀ b ∈ w, (b = sblk v ∧ n0 ≤ b) ∨ g.n ≤ b) ∧ (∀ b, b < g.n → (b < n0 ∨ ∀ c, g.get b ≠ some (.cells c 41)) → h2.get b = g.get b) := by
 have ho2 : OwnS 2 n0 (g.push (.cells (Blk.of [.int .i64 x, .bool y]) 41)) v m l 41 := ho.old fun b hb => by rw [w_push_ne (by omega)]
 obtain ⟨v2, h2, r, w, a1, a2, a3, a4, a5, a6, a7, a8⟩ := app_ownS (bytes := 16) (m := 1) (news := [.int .i64 x, .bool y]) (rs := [g.n]) ho2 (by rw [Heap.n_push]; omega) (x := .slice (some (g.n, 0)) 1 1 true) rfl (firstS (w_push_eq rfl _) (Nat.le_refl _) rfl) rfl rfl (by omega) (by omega) (by omega)
 refine ⟨v2, h2, r, w, a1, by rw [Heap.n_push] at a3; omega, a2, fun b hb => .inl ⟨(a7 b hb).1, a5 b hb⟩, fun b hlt hne => ?_⟩
 rw [a6 b (by rw [Heap.n_push]; omega) (fun hw => ?_), w_push_ne (by omega)]
 have h5 := a5 b hw
 rcases hne with h6 | hne
 ·omega
 ·obtain ⟨c, e⟩ := (a7 b hw).2
  rw [w_push_ne (by omega)] at e
  exact hne c e
set_option maxHeartbeats 4000000 in
theorem come_round {g : Heap} {I S : Set'} {lp cb nb xb pb b m n0 n mk : Nat} {tr : Tr V} {x : Pt} {l lc : List V} {cv w : V}
  (hl : g.get lp = some (.loop ⟨.ready, none, ⟨63, tr⟩, [50, 51], (rc12 0).1, (rc12 0).2, mk⟩))
  (t3 : tr.get 3 = some (.ptr (some (pb, 0)))) (t8 : tr.get 8 = some (.ptr (some (cb, 0)))) (t10 : tr.get 10 = some (.ptr (some (nb, 0)))) (t11 : tr.get 11 = some (.ptr (some (xb, 0))))
  (c8 : ∃ c, g.get cb = some (.cells c 37) ∧ c.size = 1 ∧ c.ro = false ∧ c.get 0 = cv) (ho : OwnS 2 n0 g cv m lc 41) (hn0 : n0 ≤ g.n) (hm : m ≤ 1000)
  (c10 : ∃ c, g.get nb = some (.cells c 3) ∧ c.size = 1 ∧ c.get 0 = .int .i64 (n : Int))
  (c11 : ∃ c, g.get xb = some (.cells c 76) ∧ c.size = 1 ∧ c.get 0 = .ptr (some (b, 0)))
  (c3 : ∃ c v, g.get pb = some (.cells c 36) ∧ c.size = 1 ∧ c.get 0 = v ∧ LR g S v l) (hS : ∀ k, S k → k ≠ lp) (hby : Byt l) (hl64 : l.length ≤ 64)
  (hx : PortAt g I b x) (hib : ∀ k, I k → k ≠ b ∧ k ≠ lp ∧ k ≠ cb ∧ (k < n0 ∨ ∃ c, g.get k = some (.cells c 5))) :
  SY ⟨Try.prog, true⟩ lp [.int .i64 0, w] g (fun _ => True) (fun k => g.n ≤ k ∨ (k = lp ∨ k = cb ∨ k = b ∨ (k = sblk cv ∧ n0 ≤ k))) fun r g' => r = .bool true ∧ g.n ≤ g'.n ∧ g'.get lp = some (.loop ⟨.ready, none, ⟨63, tr⟩, [50, 51], (rc12 0).1, (rc12 0).2, mk⟩) ∧ PortAt g' (fun k => I k ∨ Fresh g g' 5 k) b (x.put l) ∧ (∃ c cv', g'.get cb = some (.cells c 37) ∧ c.size = 1 ∧ c.ro = false ∧ c.get 0 = cv' ∧ OwnS 2 n0 g' cv' (m + 1) (lc ++ [.int .i64 (n : Int), .bool (decide (x.ring.length = 8))]) 41) ∧ ∀ k, k < g.n → k ≠ lp → k ≠ cb → k ≠ b → (k < n0 ∨ ∀ c, g.get k ≠ some (.cells c 41)) → g'.get k = g.get k := by
 obtain ⟨d8, e8, s8, r8, v8⟩ := c8
 obtain ⟨d10, e10, s10, v10⟩ := c10
 obtain ⟨d11, e11, s11, v11⟩ := c11
 obtain ⟨d3, pv, e3, s3, v3, hpv⟩ := c3
 obtain ⟨dx, ex⟩ := hx.cells
 have hll := Heap.lt_of_get hl
 refine SY.go Go.Proofs.Ytmimialblhlklaa.hm hl trivial (.inr (.inl rfl)) rfl ir12_a0_eq ir12_b0_eq ?_
 simp -implicitDefEqProofs (disch := (first | omega | (simp -implicitDefEqProofs only [szs, ne_eq] <;> omega) | fail)) only [go_sem, seval, ↓reduceIte, ir12_a0]
 refine ⟨_, hl, rfl, ?_⟩
 obtain ⟨G, eG⟩ : ∃ G, G = g.set lp (O.loop ⟨.busy, none, ⟨63, tr⟩, [50, 51], (rc12 0).1, (rc12 0).2, mk⟩) := ⟨_, rfl⟩
 rw [← eG]
 have nG : G.n = g.n := by rw [eG]; simp
 have kG : ∀ b, b ≠ lp → G.get b = g.get b := fun b hb => by rw [eG]; exact w_set_ne hll hb _
 have lG : G.get lp = some (.loop ⟨.busy, none, ⟨63, tr⟩, [50, 51], (rc12 0).1, (rc12 0).2, mk⟩) := by rw [eG]; exact w_set_eq hll rfl _
 clear eG
 have nel : ∀ {k c e}, g.get k = some (.cells c e) → k ≠ lp := fun hk e => by rw [e, hl] at hk; cases hk
 have E8 := (kG cb (nel e8)).trans e8
 have E10 := (kG nb (nel e10)).trans e10
 have E11 := (kG xb (nel e11)).trans e11
 have E3 := (kG pb (nel e3)).trans e3
 have hxG : PortAt G I b x := hx.same (kG b (nel ex)) fun k hk _ => kG k (hib k hk).2.1
 have hpG : LR G S pv l := hpv.same fun k hk _ => kG k (hS k hk)
 have hoG : OwnS 2 n0 G cv m lc 41 := ho.keep fun k c hk _ => (kG k (nel hk)).trans hk
 have hco := ho.lr.one
 have hpo := hpv.one
 have ne8 : cb ≠ b := fun e => by rw [e, ex] at e8; cases e8
 have ne10 : nb ≠ b := fun e => by rw [e, ex] at e10; cases e10
 simp -implicitDefEqProofs (disch := (first | omega | (simp -implicitDefEqProofs only [szs, ne_eq] <;> omega) | fail)) only [go_sem, seval, ↓reduceIte, ir12_b0, t3, t8, t10, t11, E8, s8, v8, E10, s10, v10, E11, s11, v11, E3, s3, v3]
 refine GCallD.of (R' := fun _ => True) (W' := fun k => k = b) (((put_ok (R := fun _ => True) (W := fun k => k = b) hxG (fun k hk => (hib k hk).1) hpG hby hl64 (fun _ => trivial) rfl).any.kept).foot (fun _ h => h) (fun _ h => h)) ?_
 rintro r H ⟨⟨rfl, hxH, nH, kH⟩, _⟩
 have lH := (kH lp (by omega) (by have := (nel ex); omega)).trans lG
 have F8 := (kH cb (Heap.lt_of_get E8) ne8).trans E8
 have F10 := (kH nb (Heap.lt_of_get E10) ne10).trans E10
 have hoH : OwnS 2 n0 H cv m lc 41 := hoG.keep fun k c hk _ => by
  have : k ≠ b := fun e => by rw [e, kG b (nel ex), ex] at hk; cases hk
  rw [kH k (Heap.lt_of_get hk) this]; exact hk
 obtain ⟨v2, H2, rr, ww, hap, n2, ho2, hw2, k2⟩ := app_came (x := (n : Int)) (y := !decide (x.ring.length ≠ 8)) hoH (by omega) (by omega)
 have hvo := ho2.lr.one
 have hvc := ho2.lr.cells
 have L8 := (k2 cb (Heap.lt_of_get F8) (.inr fun c e => by rw [F8] at e; cases e)).trans F8
 simp -implicitDefEqProofs (disch := (first | omega | (simp -implicitDefEqProofs only [szs, ne_eq] <;> omega) | fail)) only [go_sem, seval, ↓reduceIte, t8, s8, r8, appendV_of ap_37, hap, ↓hvo, ↓hvc, L8]
 have hlc : lp ≠ cb := fun e => nel e8 e.symm
 have hLP : (H2.set cb (O.cells (d8.set 0 v2) 37)).get lp = some (.loop ⟨.busy, none, ⟨63, tr⟩, [50, 51], (rc12 0).1, (rc12 0).2, mk⟩) := by
  rw [w_set_ne (Heap.lt_of_get L8) hlc, k2 lp (by omega) (.inr fun c e => by rw [lH] at e; cases e)]; exact lH
 have hbb : (!decide (x.ring.length ≠ 8)) = decide (x.ring.length = 8) := by
  by_cases h : x.ring.length = 8 <;> simp [h]
 rw [hbb] at ho2
 obtain ⟨Z, eZ⟩ : ∃ Z, Z = (H2.set cb (O.cells (d8.set 0 v2) 37)).set lp (.loop ⟨.ready, none, ⟨63, tr⟩, [50, 51], (rc12 0).1, (rc12 0).2, mk⟩) := ⟨_, rfl⟩
 have nZ : Z.n = H2.n := by rw [eZ]; simp
 have kZ : ∀ k, k ≠ lp → k ≠ cb → Z.get k = H2.get k := fun k h1 h2 => by rw [eZ, w_set_ne (by simp; omega) h1, w_set_ne (Heap.lt_of_get L8) h2]
 have cZ : Z.get cb = some (.cells (d8.set 0 v2) 37) := by rw [eZ, w_set_ne (by simp; omega) hlc.symm]; exact w_set_eq (Heap.lt_of_get L8) rfl _
 have key : PortAt Z (fun k => I k ∨ Fresh g Z 5 k) b (x.put l) ∧ (∃ c cv', Z.get cb = some (.cells c 37) ∧ c.size = 1 ∧ c.ro = false ∧ c.get 0 = cv' ∧ OwnS 2 n0 Z cv' (m + 1) (lc ++ [.int .i64 (n : Int), .bool (decide (x.ring.length = 8))]) 41) ∧ ∀ k, k < g.n → k ≠ lp → k ≠ cb → k ≠ b → (k < n0 ∨ ∀ c, g.get k ≠ some (.cells c 41)) → Z.get k = g.get k := by
  clear eZ
  obtain ⟨cx, xH⟩ := hxH.cells
  have hbl := Heap.lt_of_get xH
  have hbl' := Heap.lt_of_get ex
  have hcl := Heap.lt_of_get E8
  have kI : ∀ k, I k ∨ Fresh G H 5 k → k < H.n → Z.get k = H.get k := fun k hk hlt => by
   rcases hk with hk | ⟨h1, c, e⟩
   ·obtain ⟨h1, h2, h3, h4⟩ := hib k hk
    refine (kZ k h2 h3).trans (k2 k hlt (h4.imp id fun ⟨c, e⟩ c' e' => ?_))
    rw [kH k (by have := Heap.lt_of_get e; omega) h1, kG k h2, e] at e'; cases e'
   ·exact (kZ k (by omega) (by omega)).trans (k2 k hlt (.inr fun c' e' => by rw [e] at e'; cases e'))
  refine ⟨(hxH.same ((kZ b (nel ex) ne8.symm).trans (k2 b hbl (.inr fun c e => by rw [xH] at e; cases e))) kI).mono fun k hk => hk.imp id fun h1 => ?_, ⟨_, v2, cZ, by rw [Blk.size_set]; exact s8, by rw [Blk.ro_set]; exact r8, w_bset_eq rfl _, ho2.keep fun k c hk _ => ?_⟩, fun k hk h1 h2 h3 h4 => ?_⟩
  ·obtain ⟨h2, c, e⟩ := h1
   exact ⟨by omega, c, (kI k (.inr ⟨h2, c, e⟩) (Heap.lt_of_get e)).trans e⟩
  ·rw [kZ k (fun e => ?_) (fun e => ?_)]
   ·exact hk
   ·rw [e, k2 lp (by omega) (.inr fun c e => by rw [lH] at e; cases e), lH] at hk; cases hk
   ·rw [e, L8] at hk; cases hk
  ·have e1 := (kH k (by omega) h3).trans (kG k h1)
   rw [kZ k h1 h2, k2 k (by omega) (h4.imp id fun h4 c e => h4 c (e1.symm.trans e)), e1]
 rw [eZ] at key
 refine ⟨?_, ?_, _, hLP, rfl, by omega, rfl, key⟩
 ·refine ⟨⟨fun k h _ => h.elim (fun h => List.not_mem_nil h.2) fun h => by omega, fun k h1 h2 => ?_⟩, ⟨fun k h _ => h.elim (fun h => List.not_mem_nil h.2) fun h => by omega, fun k h1 h2 => ?_⟩, fun k h _ => h.elim (fun h => List.not_mem_nil h.2) fun h => by omega, fun k h => absurd h.2 List.not_mem_nil⟩
  ·simp only [List.mem_singleton, List.not_mem_nil, or_false] at h2; omega
  ·simp only [List.mem_singleton, List.not_mem_nil, or_false] at h2; omega
 ·exact ⟨fun k _ h => .inr (.inr (.inr (.inl h))), fun k hk h => (hw2 k h).elim (fun h => .inr (.inr (.inr (.inr h)))) fun h => by omega⟩
end Go.Proofs.Ytmimialblhlklaa
