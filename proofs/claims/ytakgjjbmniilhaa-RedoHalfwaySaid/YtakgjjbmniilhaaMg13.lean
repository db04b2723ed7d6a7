/- A disk and its log, in memory, and the log's laws upon it: one machine. -/
import Derived.Test.YtakgjjbmniilhaaLF
import Derived.Test.YtakgjjbmniilhaaMg12
import Derived.Test.YtakgjjbmniilhaaMg9
import Derived.Test.YtakgjjbmniilhaaIr3
set_option linter.unusedVariables false
set_option linter.unusedSimpArgs false
set_option linter.unusedSimpArgs false
set_option maxRecDepth 100000
set_option linter.unusedVariables false
set_option linter.unusedSimpArgs false
namespace Go.Proofs.Ytakgjjbmniilhaa
open Go Go.Vm
attribute [-go_sem] sz_101
variable {h g g' : Heap} {R W M N : Set'} {bd lp fr ct n0 k j : Nat} {D D2 : DS} {G G2 : LgS} {E E' : Nat → List V}
structure Pg (g : Heap) (n0 : Nat) (M N : Set') (bd lp fr ct : Nat) (D : DS) (G : LgS) : Prop where
  x : DkX g M bd D
  l : LgX g N lp bd fr ct G
  ne : ∀ k, N k → ¬ M k
  lo : ∀ k, M k ∨ N k → n0 ≤ k
theorem Pg.lt (hp : Pg g n0 M N bd lp fr ct D G) : ∀ k, M k ∨ N k → k < g.n := fun k hk => hk.elim (hp.x.lt k) (hp.l.lt k)
theorem Pg.two {lp2 : Nat} (hp : Pg g n0 M N bd lp fr ct D G) (hn : n0 ≤ g.n) (hq : TwoQ g g' M N lp2 bd fr ct D2 G2) : (g.n ≤ g'.n ∧ ∀ k, k < n0 → g'.get k = g.get k) ∧ ∃ M2 N2, Pg g' n0 M2 N2 bd lp2 fr ct D2 G2 ∧ ∀ k, M2 k ∨ N2 k → (M k ∨ N k) ∨ g.n ≤ k := by
  obtain ⟨h1, h2, M2, N2, h3, h4, h5, h6, h7⟩ := hq
  have hlo := hp.lo
  have hM : ∀ k, M2 k ∨ N2 k → (M k ∨ N k) ∨ g.n ≤ k := fun k hk => hk.elim (fun h => (h5 k h).imp .inl id) fun h => (h6 k h).imp .inr id
  exact ⟨⟨h1, fun k hk => h2 k (by omega) (fun h => by have := hlo k (.inl h); omega) fun h => by have := hlo k (.inr h); omega⟩, M2, N2, ⟨h3, h4, h7, fun k hk => (hM k hk).elim (hlo k) fun h => by omega⟩, hM⟩
theorem Pg.old (hp : Pg g n0 M N bd lp fr ct D G) (hn : g.n ≤ g'.n) (hk : ∀ k, n0 ≤ k → k < g.n → g'.get k = g.get k) : Pg g' n0 M N bd lp fr ct D G := by
  have hlo := hp.lo
  exact ⟨hp.x.same hn fun k h => hk k (hlo k (.inl h)) (hp.x.lt k h), hp.l.keep hn fun k h1 h2 => hk k (hlo k (.inr h2)) h1, hp.ne, hlo⟩
theorem app_pg {S : Set'} {v : V} {l : List V} (hp : Pg h n0 M N bd lp fr ct D G) (hn : n0 ≤ h.n) (hc : Coh D.seen fr ct k G) (hk : k ≤ 100000) (hf : Few D j) (hj : j ≤ 100000) (hcc : 16 ≤ ct ∧ fr + ct ≤ D.n) (hR : ∀ b, R b) (hW : ∀ k, n0 ≤ k → W k)
    (hv : LR h S v l) (hS : ∀ k, S k → k < h.n ∧ ¬ M k ∧ ¬ N k) (hcap : capOk v) (hby : Byt l) (hll : l.length ≤ 6912) (hpa : (partsN l.length).1 + G.at' ≤ (ct - 2) / 2) (hrs : G.rs.length ≤ 100000) :
    SF ⟨Try.prog, true⟩ 13 [.ptr (some (lp, 0)), v] h R W fun r g => r = .tuple [.int .i64 (G.nx : Int), .int .i64 0] ∧ TwoQ h g M N lp bd fr ct (appW D fr ct G l (partsN l.length).1 (partsN l.length).1) { G with at' := G.at' + (partsN l.length).1, nx := G.nx + 1, rs := G.rs ++ [l] } := by
  have := hc.bd
  refine SF.mono (append_ok hp.x hp.l hp.ne hcc hR (fun k hk => hW k (hp.lo k hk)) hv hS hcap hby (by omega) hc.o.ok.ha ⟨by omega, by omega⟩ hc.at' (by omega) (hf.lt (by omega))).any ?_
  intro r g hq
  unfold AppQ at hq
  rw [if_neg (by omega), if_neg (by omega)] at hq
  exact hq
theorem Few.lt' {k : Nat} (h : Few D k) (hk : k < 1000000) : ∀ s, (D.pe s).length < 1000000 := fun s => Nat.lt_of_le_of_lt (h s) hk
theorem seen_crash (D : DS) (f : Nat → List V) (x : Nat) : (D.crashed f).seen x = f x := rfl
theorem Coh.sy (h : Coh E fr ct k G) (s : Nat) : Coh E fr ct k { G with sy := s } := ⟨⟨h.o.ok, h.o.may, h.o.hd, h.o.hd', h.o.ch, h.o.stop, h.o.sn⟩, h.old, h.all, h.bd, h.at'⟩
theorem Coh.sz (h : Coh E fr ct k G) : secsN G.H.sz ≤ (ct - 2) / 2 := by
  have := h.o.may.2.2.2.2
  show (G.H.sz + 119) / 120 ≤ _
  omega
theorem sec_same {b : Nat} (hc : 16 ≤ ct) (hs : ∀ x, x < fr + ct → E' x = E x) (hb : b < 2) {i : Nat} (hi : i < (ct - 2) / 2) : secE E' fr ct b i = secE E fr ct b i := by
  have := half_lt hb hi
  exact hs _ (by omega)
theorem Coh.same (h : Coh E fr ct k G) (hc : 16 ≤ ct) (hs : ∀ x, x < fr + ct → E' x = E x) : Coh E' fr ct k G := by
  have hha := h.o.ok.ha
  refine ⟨h.o.same (hs _ (by omega)) (hs _ (by omega)) (fun i hi => sec_same hc hs hha hi) h.at' h.sz, fun i h1 h2 => ?_, fun b hb i hi => ?_, h.bd, h.at'⟩
  · rw [sec_same hc hs hha h2]; exact h.old i h1 h2
  · rw [sec_same hc hs hb hi]; exact h.all b hb i hi
structure LitQ (g g' : Heap) (v : V) (l : List V) : Prop where
  n : g'.n = g.n + 1
  k : ∀ k, k < g.n → g'.get k = g.get k
  v : LR g' (fun b => b = g.n) v l
theorem LitQ.hS {g g' : Heap} {v : V} {l : List V} (hq : LitQ g g' v l) (hM : ∀ k, M k ∨ N k → k < g.n) : ∀ k, k = g.n → k < g'.n ∧ ¬ M k ∧ ¬ N k := fun k hk => by
  have := hq.n
  exact ⟨by omega, fun h => by have := hM k (.inl h); omega, fun h => by have := hM k (.inr h); omega⟩
theorem lit1 (h : Heap) (a : Int) : selfV Try.prog 22 (.slice (some (h.n, 0)) 1 1 true) (h.push (.cells (Blk.of [.int .u8 a]) 5)) = some ⟨.slice (some (h.n, 0)) 1 1 true, (h.push (.cells (Blk.of [.int .u8 a]) 5)).set h.n (.cells (Blk.of [.int .u8 a]) 5), [], [h.n]⟩ := by
  unfold selfV
  simp only [Try.underlying22, Try.underlying5]
  rw [w_push_eq rfl]
  rfl
theorem lit2 (h : Heap) (a b : Int) : selfV Try.prog 22 (.slice (some (h.n, 0)) 2 2 true) (h.push (.cells (Blk.of [.int .u8 a, .int .u8 b]) 5)) = some ⟨.slice (some (h.n, 0)) 2 2 true, (h.push (.cells (Blk.of [.int .u8 a, .int .u8 b]) 5)).set h.n (.cells (Blk.of [.int .u8 a, .int .u8 b]) 5), [], [h.n]⟩ := by
  unfold selfV
  simp only [Try.underlying22, Try.underlying5]
  rw [w_push_eq rfl]
  rfl
theorem lit_q (g : Heap) (l : List V) (hl : l ≠ []) : ∃ g', (g.push (.cells (Blk.of l) 5)).set g.n (.cells (Blk.of l) 5) = g' ∧ LitQ g g' (.slice (some (g.n, 0)) l.length l.length true) l :=
  ⟨_, rfl, by simp, fun k hk => by rw [w_set_ne (by simp only [Heap.n_push]; omega) (by omega), w_push_ne (by omega)], .inr ⟨g.n, 0, l.length, true, _, 5, rfl, rfl, w_set_eq (by simp only [Heap.n_push]; omega) rfl _, by rw [w_of_size]; omega, gets_all _ rfl⟩⟩
theorem rep_q (g : Heap) (m : Nat) : ∃ g', g.push (.cells (Blk.rep m [.int .u8 0]) 5) = g' ∧ LitQ g g' (.slice (some (g.n, 0)) m m true) (zB m) :=
  ⟨_, rfl, by simp, fun k hk => w_push_ne (by omega) _, .inr ⟨g.n, 0, m, true, _, 5, by rw [zB_len], rfl, w_push_eq rfl _, by rw [zB_len]; exact Nat.le_of_eq (Nat.zero_add m), by
    rw [zB_len]
    refine List.ext_getElem? fun i => ?_
    by_cases hi : i < m
    · rw [Blk.gets_get _ _ _ _ hi, rep_get, show (0 + i) % [V.int .u8 0].length = 0 from Nat.mod_one _]
      unfold zB
      rw [List.getElem?_replicate, if_pos hi]; rfl
    · rw [List.getElem?_eq_none (by rw [Blk.length_gets]; omega), List.getElem?_eq_none (by rw [zB_len]; omega)]⟩⟩
set_option maxHeartbeats 16000000 in
theorem known_c (hR : ∀ b, R b) : SF ⟨Try.prog, true⟩ 7 [] h R W fun r _ => r = .bool true := by
  have hR' : ∀ b, h.n ≤ b ∨ R b := fun b => .inr (hR b)
  have hW' : ∀ b, h.n ≤ b → h.n ≤ b ∨ W b := fun b => .inl
  refine SF.go hm Try.func7 ir7_eq ?_
  simp -implicitDefEqProofs (disch := (first | omega | (simp -implicitDefEqProofs only [szs, ne_eq] <;> omega) | fail)) only [go_sem, seval, ↓reduceIte, reduceCtorEq, ir7, undefV]
  refine GCall.of (new_dk (n := 32) ⟨by omega, by omega⟩).any ?_
  rintro r g1 ⟨M1, bd, rfl, hx1, hM1, n1, k1⟩
  rw [show (32 : Int).toNat = 32 from rfl] at hx1
  simp -implicitDefEqProofs (disch := (first | omega | (simp -implicitDefEqProofs only [szs, ne_eq] <;> omega) | fail)) only [go_sem, seval, ↓reduceIte, reduceCtorEq, undefV]
  refine GCall.of (open_log (f := 0) (k := 32) hx1 (by omega) (by omega) ((few_new 32).lt (by omega)) hR' fun k hk => .inl (hM1 k hk)) ?_
  rintro r g2 hq
  have ho : okO (DS.new 32) 0 32 := by unfold okO; exact ⟨by decide, by decide, by decide, by decide⟩
  have hb0 : BlankS (DS.new 32) 0 32 := blank_new 32 0 32
  unfold OpenQ at hq
  rw [if_pos ho, show (0 : Int).toNat = 0 from rfl, show (32 : Int).toNat = 32 from rfl, open_blank hb0 (by omega)] at hq
  obtain ⟨lp, hlp, rfl, hq⟩ := hq
  have hcoh1 : Coh (layD (DS.new 32) 0 32 H1).seen 0 32 1 G1 := coh_new hb0 (by omega)
  have f2 : Few (layD (DS.new 32) 0 32 H1) 1 := few_lay (few_new 32)
  obtain ⟨D1, eD1⟩ : ∃ D1, D1 = layD (DS.new 32) 0 32 H1 := ⟨_, rfl⟩
  have d1 : D1.n = 32 := by rw [eD1]; rfl
  rw [← eD1] at hq hcoh1 f2
  obtain ⟨n2, k2, M2, N2, hx2, hl2, hM2, hN2, hd2⟩ := hq
  have hp2 : Pg g2 h.n M2 N2 bd lp 0 32 D1 G1 := ⟨hx2, hl2, hd2, fun k hk => hk.elim (fun h => (hM2 k h).elim (hM1 k) fun h => by omega) fun h => (hN2 k h).elim (fun h => h.elim) fun h => by omega⟩
  simp -implicitDefEqProofs (disch := (first | omega | (simp -implicitDefEqProofs only [szs, ne_eq] <;> omega) | fail)) only [go_sem, seval, ↓reduceIte, reduceCtorEq, undefV]
  refine GCall.of (open_log (f := 0) (k := 15) hp2.x (by omega) (by omega) (f2.lt (by omega)) hR' fun k hk => .inl (hp2.lo k (.inl hk))) ?_
  rintro r g3 hq
  have ho : ¬ okO D1 0 15 := by unfold okO; omega
  unfold OpenQ at hq
  rw [if_neg ho] at hq
  obtain ⟨rfl, n3, k3⟩ := hq
  have hp3 : Pg g3 h.n M2 N2 bd lp 0 32 D1 G1 := hp2.old n3 fun k _ h => k3 k h
  simp -implicitDefEqProofs (disch := (first | omega | (simp -implicitDefEqProofs only [szs, ne_eq] <;> omega) | fail)) only [go_sem, seval, ↓reduceIte, reduceCtorEq, undefV]
  refine GCall.of (epoch_ok hp3.l hR' (by decide)).any ?_
  rintro r g3' ⟨rfl, rfl⟩
  have t1 : ((G1.H.ep : Nat) : Int) = 1 := rfl
  simp -implicitDefEqProofs (disch := (first | omega | (simp -implicitDefEqProofs only [szs, ne_eq] <;> omega) | fail)) only [go_sem, seval, ↓reduceIte, reduceCtorEq, undefV, t1]
  refine GCall.of (last_ok hp3.l hR' (by decide)).any ?_
  rintro r g3' ⟨rfl, rfl⟩
  have t2 : ((G1.nx : Nat) : Int) - 1 = 0 := rfl
  simp -implicitDefEqProofs (disch := (first | omega | (simp -implicitDefEqProofs only [szs, ne_eq] <;> omega) | fail)) only [go_sem, seval, ↓reduceIte, reduceCtorEq, undefV, t2]
  refine GCall.of (room_ok hp3.l (by omega) (by omega) hR' (by decide)).any ?_
  rintro r g4 ⟨rfl, n4, k4⟩
  have hp4 : Pg g4 h.n M2 N2 bd lp 0 32 D1 G1 := hp3.old n4 fun k _ h => k4 k h
  have t3 : (((32 - 2) / 2 : Nat) : Int) - (G1.at' : Int) = 15 := rfl
  have hl4 := lit1 g4 97
  have hg4 : h.n ≤ g4.n := by omega
  simp -implicitDefEqProofs (disch := (first | omega | (simp -implicitDefEqProofs only [szs, ne_eq] <;> omega) | fail)) only [go_sem, seval, ↓reduceIte, reduceCtorEq, undefV, t3, ↓cvS22, hl4, hg4]
  obtain ⟨g5, e5, q5⟩ := lit_q g4 [.int .u8 97] (by simp)
  rw [e5]
  have hp5 : Pg g5 h.n M2 N2 bd lp 0 32 D1 G1 := hp4.old (by rw [q5.n]; omega) fun k _ h => q5.k k h
  have n5 := q5.n
  refine GCall.of (app_pg hp5 (by omega) hcoh1 (by omega) f2 (by omega) (by rw [d1]; omega) hR' hW' q5.v (q5.hS hp4.lt) (Nat.le_refl _) (Byt.cons ⟨97, rfl, by decide, by decide⟩ Byt.nil) (by decide) (by decide) (by decide)) ?_
  rintro r g6 ⟨rfl, hq⟩
  have c2 := hcoh1.app (l := [.int .u8 97]) (by omega) (by decide) (by decide)
  have f3 : Few (appW D1 0 32 G1 [.int .u8 97] 1 1) _ := few_app f2 1
  have p1 : (partsN ([.int .u8 97] : List V).length).1 = 1 := rfl
  rw [p1] at c2 hq
  obtain ⟨D3, eD3⟩ : ∃ D3, D3 = appW D1 0 32 G1 [.int .u8 97] 1 1 := ⟨_, rfl⟩
  have d3 : D3.n = 32 := by rw [eD3]; exact (appW_n _ _ _ _ _ _ _).trans d1
  rw [← eD3] at hq c2 f3
  obtain ⟨G3, eG3⟩ : ∃ G3 : LgS, G3 = { G1 with at' := G1.at' + 1, nx := G1.nx + 1, rs := G1.rs ++ [[.int .u8 97]] } := ⟨_, rfl⟩
  rw [← eG3] at hq c2
  have nx3 : G3.nx = 2 := by rw [eG3]; rfl
  have at3 : G3.at' = 1 := by rw [eG3]; rfl
  have rs3 : G3.rs.length = 1 := by rw [eG3]; rfl
  obtain ⟨⟨n6, k6⟩, M6, N6, hp6, hs6⟩ := hp5.two (by omega) hq
  simp -implicitDefEqProofs (disch := (first | omega | (simp -implicitDefEqProofs only [szs, ne_eq] <;> omega) | fail)) only [go_sem, seval, ↓reduceIte, reduceCtorEq, undefV]
  obtain ⟨g7, e7, q7⟩ := rep_q g6 200
  rw [e7]
  have hp7 : Pg g7 h.n M6 N6 bd lp 0 32 D3 G3 := hp6.old (by rw [q7.n]; omega) fun k _ h => q7.k k h
  have n7 := q7.n
  have z2 : (zB 200).length = 200 := zB_len 200
  have p2 : (partsN (zB 200).length).1 = 2 := by rw [z2]; rfl
  refine GCall.of (app_pg hp7 (by omega) c2 (by omega) f3 (by omega) (by rw [d3]; omega) hR' hW' q7.v (q7.hS hp6.lt) (Nat.le_refl _) (byt_zB _) (by rw [z2]; decide) (by rw [p2, at3]; decide) (by omega)) ?_
  rintro r g8 ⟨rfl, hq⟩
  have c4 := c2.app (l := zB 200) (by omega) (by rw [z2]; decide) (by rw [p2, at3]; decide)
  have f4 : Few (appW D3 0 32 G3 (zB 200) 2 2) _ := few_app f3 2
  rw [p2] at c4 hq
  obtain ⟨D4, eD4⟩ : ∃ D4, D4 = appW D3 0 32 G3 (zB 200) 2 2 := ⟨_, rfl⟩
  have d4 : D4.n = 32 := by rw [eD4]; exact (appW_n _ _ _ _ _ _ _).trans d3
  rw [← eD4] at hq c4 f4
  obtain ⟨G4, eG4⟩ : ∃ G4 : LgS, G4 = { G3 with at' := G3.at' + 2, nx := G3.nx + 1, rs := G3.rs ++ [zB 200] } := ⟨_, rfl⟩
  rw [← eG4] at hq c4
  have nx4 : G4.nx = 3 := by rw [eG4]; show G3.nx + 1 = 3; omega
  have at4 : G4.at' = 3 := by rw [eG4]; show G3.at' + 2 = 3; omega
  have rs4 : G4.rs.length = 2 := by rw [eG4]; show (G3.rs ++ [zB 200]).length = 2; rw [List.length_append, rs3]; rfl
  have sy4 : G4.sy = 0 := by rw [eG4]; show G3.sy = 0; rw [eG3]; rfl
  have ep4 : G4.H.ep = 1 := by rw [eG4]; show G3.H.ep = 1; rw [eG3]; rfl
  obtain ⟨⟨n8, k8⟩, M8, N8, hp8, hs8⟩ := hp7.two (by omega) hq
  have t4 : (G1.nx : Int) = 1 := rfl
  have t5 : (G3.nx : Int) = 2 := by rw [nx3]; rfl
  simp -implicitDefEqProofs (disch := (first | omega | (simp -implicitDefEqProofs only [szs, ne_eq] <;> omega) | fail)) only [go_sem, seval, ↓reduceIte, reduceCtorEq, undefV, t4, t5]
  refine GCall.of (room_ok hp8.l (by omega) (by omega) hR' (by omega)).any ?_
  rintro r g9 ⟨rfl, n9, k9⟩
  have hp9 : Pg g9 h.n M8 N8 bd lp 0 32 D4 G4 := hp8.old n9 fun k _ h => k9 k h
  have t6 : (((32 - 2) / 2 : Nat) : Int) - (G4.at' : Int) = 12 := by rw [at4]; rfl
  simp -implicitDefEqProofs (disch := (first | omega | (simp -implicitDefEqProofs only [szs, ne_eq] <;> omega) | fail)) only [go_sem, seval, ↓reduceIte, reduceCtorEq, undefV, t6]
  refine GCall.of (synced_ok hp9.l hR' (by omega)).any ?_
  rintro r g9' ⟨rfl, rfl⟩
  have t7 : (G4.sy : Int) = 0 := by rw [sy4]; rfl
  simp -implicitDefEqProofs (disch := (first | omega | (simp -implicitDefEqProofs only [szs, ne_eq] <;> omega) | fail)) only [go_sem, seval, ↓reduceIte, reduceCtorEq, undefV, t7]
  refine GCall.of (sync_ok hp9.x hp9.l hp9.ne (by rw [d4]; omega) hR' (fun k hk => hW' k (hp9.lo k (.inl hk))) (hW' lp (hp9.lo lp (.inr hp9.l.l))) ⟨by omega, by omega⟩).any ?_
  rintro r g10 ⟨rfl, hq⟩
  obtain ⟨⟨n10, k10⟩, M10, N10, hp10, hs10⟩ := hp9.two (by omega) hq
  obtain ⟨D5, eD5⟩ : ∃ D5, D5 = D4.flush 0 32 := ⟨_, rfl⟩
  have s5 : D5.seen = D4.seen := funext fun x => by rw [eD5, seen_flush]
  have d5 : D5.n = 32 := by rw [eD5]; exact d4
  have f5 : Few D5 (1 + 1 + 2) := by rw [eD5]; exact f4.flush
  have fl5 : ∀ s, s < 32 → D5.fl s = D4.seen s := fun s hs => by
    rw [eD5]
    show (if 0 ≤ s ∧ s < 0 + 32 then D4.seen s else D4.fl s) = _
    rw [if_pos (by omega)]
  have c5 : Coh D5.seen 0 32 (1 + 1 + 1) { G4 with sy := G4.nx - 1 } := by rw [s5]; exact c4.sy _
  rw [← eD5] at hp10
  obtain ⟨G5, eG5⟩ : ∃ G5 : LgS, G5 = { G4 with sy := G4.nx - 1 } := ⟨_, rfl⟩
  rw [← eG5] at hp10 c5
  have nx5 : G5.nx = 3 := by rw [eG5]; exact nx4
  have at5 : G5.at' = 3 := by rw [eG5]; exact at4
  have rs5 : G5.rs.length = 2 := by rw [eG5]; exact rs4
  have sy5 : G5.sy = 2 := by rw [eG5]; show G4.nx - 1 = 2; omega
  have ep5 : G5.H.ep = 1 := by rw [eG5]; exact ep4
  simp -implicitDefEqProofs (disch := (first | omega | (simp -implicitDefEqProofs only [szs, ne_eq] <;> omega) | fail)) only [go_sem, seval, ↓reduceIte, reduceCtorEq, undefV]
  refine GCall.of (synced_ok hp10.l hR' (by omega)).any ?_
  rintro r g10' ⟨rfl, rfl⟩
  have t8 : (G5.sy : Int) = 2 := by rw [sy5]; rfl
  have hl10 := lit1 g10' 98
  have hg10 : h.n ≤ g10'.n := by omega
  simp -implicitDefEqProofs (disch := (first | omega | (simp -implicitDefEqProofs only [szs, ne_eq] <;> omega) | fail)) only [go_sem, seval, ↓reduceIte, reduceCtorEq, undefV, t8, ↓cvS22, hl10, hg10]
  obtain ⟨g11, e11, q11⟩ := lit_q g10' [.int .u8 98] (by simp)
  rw [e11]
  have hp11 : Pg g11 h.n M10 N10 bd lp 0 32 D5 G5 := hp10.old (by rw [q11.n]; omega) fun k _ h => q11.k k h
  have n11 := q11.n
  refine GCall.of (app_pg hp11 (by omega) c5 (by omega) f5 (by omega) (by rw [d5]; omega) hR' hW' q11.v (q11.hS hp10.lt) (Nat.le_refl _) (Byt.cons ⟨98, rfl, by decide, by decide⟩ Byt.nil) (by decide) (by rw [at5]; decide) (by omega)) ?_
  rintro r g12 ⟨rfl, hq⟩
  have p6 : (partsN ([.int .u8 98] : List V).length).1 = 1 := rfl
  rw [p6] at hq
  obtain ⟨D6, eD6⟩ : ∃ D6, D6 = appW D5 0 32 G5 [.int .u8 98] 1 1 := ⟨_, rfl⟩
  have d6 : D6.n = 32 := by rw [eD6]; exact (appW_n _ _ _ _ _ _ _).trans d5
  have fl6 : D6.fl = D5.fl := by rw [eD6]; rfl
  rw [← eD6] at hq
  obtain ⟨⟨n12, k12⟩, M12, N12, hp12, hs12⟩ := hp11.two (by omega) hq
  have t9 : (G5.nx : Int) = 3 := by rw [nx5]; rfl
  simp -implicitDefEqProofs (disch := (first | omega | (simp -implicitDefEqProofs only [szs, ne_eq] <;> omega) | fail)) only [go_sem, seval, ↓reduceIte, reduceCtorEq, undefV, t9]
  refine GCall.of (crash_dk (m := 0) (ks := fun _ => 0) (kw := fun _ => 0) (f := D6.fl) (S := fun _ => False) hp12.x hR' ⟨by omega, .inl ⟨rfl, .inl rfl⟩⟩ rfl).any ?_
  rintro r g13 ⟨M13, bd', rfl, hx13, hM13, n13, k13⟩
  obtain ⟨D7, eD7⟩ : ∃ D7, D7 = D6.crashed D6.fl := ⟨_, rfl⟩
  have d7 : D7.n = 32 := by rw [eD7]; exact d6
  have s7 : ∀ x, x < 0 + 32 → D7.seen x = D5.seen x := fun x hx => by
    rw [eD7, seen_crash, fl6, fl5 x (by omega), s5]
  have f7 : Few D7 0 := by rw [eD7]; exact fun s => Nat.le_refl _
  rw [← eD7] at hx13
  have c7 : Coh D7.seen 0 32 (1 + 1 + 1) G5 := c5.same (by omega) s7
  simp -implicitDefEqProofs (disch := (first | omega | (simp -implicitDefEqProofs only [szs, ne_eq] <;> omega) | fail)) only [go_sem, seval, ↓reduceIte, reduceCtorEq, undefV]
  refine GCall.of (open_log (f := 0) (k := 32) hx13 (by omega) (by omega) (f7.lt (by omega)) hR' fun k hk => .inl (by have := hM13 k hk; omega)) ?_
  rintro r g14 hq
  have ho7 : okO D7 0 32 := by unfold okO; omega
  unfold OpenQ at hq
  rw [if_pos ho7, show (0 : Int).toNat = 0 from rfl, show (32 : Int).toNat = 32 from rfl, c7.o.opens] at hq
  obtain ⟨lq, hlq, rfl, n14, k14, M14, N14, hx14, hl14, hM14, hN14, hd14⟩ := hq
  have c8 := c7.re (by omega)
  have f8 : Few (layD D7 0 32 (upH G5.H)) 1 := few_lay f7
  obtain ⟨D8, eD8⟩ : ∃ D8, D8 = layD D7 0 32 (upH G5.H) := ⟨_, rfl⟩
  have d8 : D8.n = 32 := by rw [eD8]; exact d7
  rw [← eD8] at c8 f8 hx14
  obtain ⟨G8, eG8⟩ : ∃ G8, G8 = reG G5 := ⟨_, rfl⟩
  rw [← eG8] at c8 hl14
  have nx8 : G8.nx = 3 := by rw [eG8]; exact nx5
  have ep8 : G8.H.ep = 2 := by rw [eG8]; show G5.H.ep + 1 = 2; omega
  have hp14 : Pg g14 h.n M14 N14 bd' lq 0 32 D8 G8 := ⟨hx14, hl14, hd14, fun k hk => hk.elim (fun h => (hM14 k h).elim (fun h => by have := hM13 k h; omega) fun h => by omega) fun h => (hN14 k h).elim (fun h => h.elim) fun h => by omega⟩
  simp -implicitDefEqProofs (disch := (first | omega | (simp -implicitDefEqProofs only [szs, ne_eq] <;> omega) | fail)) only [go_sem, seval, ↓reduceIte, reduceCtorEq, undefV]
  refine GCall.of (last_ok hp14.l hR' (by omega)).any ?_
  rintro r g14' ⟨rfl, rfl⟩
  have t10 : (G8.nx : Int) - 1 = 2 := by rw [nx8]; rfl
  simp -implicitDefEqProofs (disch := (first | omega | (simp -implicitDefEqProofs only [szs, ne_eq] <;> omega) | fail)) only [go_sem, seval, ↓reduceIte, reduceCtorEq, undefV, t10]
  refine GCall.of (epoch_ok hp14.l hR' (by omega)).any ?_
  rintro r g14'' ⟨rfl, rfl⟩
  have t11 : (G8.H.ep : Int) = 2 := by rw [ep8]; rfl
  have hl14' := lit2 g14'' 120 121
  have hg14 : h.n ≤ g14''.n := by omega
  simp -implicitDefEqProofs (disch := (first | omega | (simp -implicitDefEqProofs only [szs, ne_eq] <;> omega) | fail)) only [go_sem, seval, ↓reduceIte, reduceCtorEq, undefV, t11, ↓cvS22, hl14', hg14]
  obtain ⟨g15, e15, q15⟩ := lit_q g14'' [.int .u8 120, .int .u8 121] (by simp)
  rw [e15]
  have hp15 : Pg g15 h.n M14 N14 bd' lq 0 32 D8 G8 := hp14.old (by rw [q15.n]; omega) fun k _ h => q15.k k h
  have n15 := q15.n
  have hbxy : Byt [.int .u8 120, .int .u8 121] := Byt.cons ⟨120, rfl, by decide, by decide⟩ (Byt.cons ⟨121, rfl, by decide, by decide⟩ Byt.nil)
  have hnx8 := c8.o.nx
  refine GCall.of (checkpoint_ok hp15.x hp15.l hp15.ne (by rw [d8]; omega) hR' (fun k hk => hW' k (hp15.lo k hk)) q15.v (fun k hk => by omega) hbxy c8.o.ok.ha ⟨by omega, by omega, hnx8⟩ (f8.lt' (by omega))) ?_
  rintro r g16 hq
  unfold CkQ at hq
  rw [if_neg (by decide), c8.ckG (by omega) (by omega) (by decide)] at hq
  obtain ⟨rfl, hq⟩ := hq
  obtain ⟨⟨n16, k16⟩, M16, N16, hp16, hs16⟩ := hp15.two (by omega) hq
  obtain ⟨D9, eD9⟩ : ∃ D9, D9 = ckD D8 0 32 G8 [.int .u8 120, .int .u8 121] := ⟨_, rfl⟩
  obtain ⟨G9, eG9⟩ : ∃ G9, G9 = ckR G8 [.int .u8 120, .int .u8 121] (G8.nx - 1) := ⟨_, rfl⟩
  rw [← eD9, ← eG9] at hp16
  have nx9 : G9.nx = 3 := by rw [eG9]; exact nx8
  have ep9 : G9.H.ep = 3 := by rw [eG9]; show G8.H.ep + 1 = 3; omega
  have at9 : G9.at' = 1 := by rw [eG9]; rfl
  have sn9 : G9.sn = [.int .u8 120, .int .u8 121] := by rw [eG9]; rfl
  simp -implicitDefEqProofs (disch := (first | omega | (simp -implicitDefEqProofs only [szs, ne_eq] <;> omega) | fail)) only [go_sem, seval, ↓reduceIte, reduceCtorEq, undefV]
  refine GCall.of (room_ok hp16.l (by omega) (by omega) hR' (by omega)).any ?_
  rintro r g17 ⟨rfl, n17, k17⟩
  have hp17 : Pg g17 h.n M16 N16 bd' lq 0 32 D9 G9 := hp16.old n17 fun k _ h => k17 k h
  have t12 : (((32 - 2) / 2 : Nat) : Int) - (G9.at' : Int) = 14 := by rw [at9]; rfl
  simp -implicitDefEqProofs (disch := (first | omega | (simp -implicitDefEqProofs only [szs, ne_eq] <;> omega) | fail)) only [go_sem, seval, ↓reduceIte, reduceCtorEq, undefV, t12]
  refine GCall.of (epoch_ok hp17.l hR' (by omega)).any ?_
  rintro r g17' ⟨rfl, rfl⟩
  have t13 : (G9.H.ep : Int) = 3 := by rw [ep9]; rfl
  simp -implicitDefEqProofs (disch := (first | omega | (simp -implicitDefEqProofs only [szs, ne_eq] <;> omega) | fail)) only [go_sem, seval, ↓reduceIte, reduceCtorEq, undefV, t13]
  refine GCall.of (last_ok hp17.l hR' (by omega)).any ?_
  rintro r g17'' ⟨rfl, rfl⟩
  have t14 : (G9.nx : Int) - 1 = 2 := by rw [nx9]; rfl
  simp -implicitDefEqProofs (disch := (first | omega | (simp -implicitDefEqProofs only [szs, ne_eq] <;> omega) | fail)) only [go_sem, seval, ↓reduceIte, reduceCtorEq, undefV, t14]
  refine GCall.of (snapshot_ok hp17.l hR' (by rw [sn9]; exact hbxy) (by rw [sn9]; decide)).any ?_
  rintro r g18 ⟨o18, k18⟩
  rw [sn9] at o18
  obtain ⟨r1, v1⟩ := conv_lr o18.lr hbxy
  have q1 : allB (fun b => h.n ≤ b ∨ R b) r1 := allB_of fun b _ => hR' b
  simp -implicitDefEqProofs (disch := (first | omega | (simp -implicitDefEqProofs only [szs, ne_eq] <;> omega) | fail)) only [go_sem, seval, ↓reduceIte, reduceCtorEq, undefV, ↓cvS, v1, q1, sb_eql]
  exact congrArg V.bool (decide_eq_true rfl)
end Go.Proofs.Ytakgjjbmniilhaa
set_option maxRecDepth 100000
set_option linter.unusedVariables false
set_option linter.unusedSimpArgs false
namespace Go.Proofs.Ytakgjjbmniilhaa
open Go Go.Vm
attribute [-go_sem] sz_101
variable {h g g' : Heap} {R W M N : Set'} {bd lp fr ct n0 k j : Nat} {D D2 : DS} {G G2 : LgS} {E E' : Nat → List V}
structure DatV (h : Heap) (v : V) (l : List V) : Prop where
  r : LR h (fun b => b < h.n) v l
  cp : capOk v
  by' : Byt l
  le : l.length ≤ 9223372036854775807
structure StepsR (h : Heap) (v : V) (m : Nat) : Prop where
  le : m ≤ 9223372036854775807
  st : (m = 0 ∧ (v = .slice none 0 0 true ∨ ∃ a, v = .esl a)) ∨ ∃ b o cap c ce, v = .slice (some (b, o)) m cap true ∧ h.get b = some (.cells c ce) ∧ o + m * 3 ≤ c.size ∧ ∀ i, i < m → (∃ n : Int, c.get (o + i * 3) = .int .i64 n ∧ -9223372036854775808 ≤ n ∧ n ≤ 9223372036854775807) ∧ (∃ l, DatV h (c.get (o + i * 3 + 1)) l) ∧ ∃ kl : List Int, LR h (fun b => b < h.n) (c.get (o + i * 3 + 2)) (kl.map (V.int .i64)) ∧ ∀ k ∈ kl, -9223372036854775808 ≤ k ∧ k ≤ 9223372036854775807
theorem StepsR.len {v : V} {m : Nat} (hv : StepsR h v m) (g : Heap) : lenV Try.prog 65 v g = some (m, []) := by
  rcases hv.st with ⟨rfl, rfl | ⟨a, rfl⟩⟩ | ⟨b, o, cap, c, ce, rfl, _⟩ <;> simp [lenV, Try.underlying65]
theorem parts_long {S : Set'} {v : V} {l : List V} (hv : LR h S v l) (hl : 6912 < l.length) : SF Try.prog 9 [v] h R W fun r g => r = .tuple [.int .i64 0, .int .i64 3] ∧ g = h := by
  have hlen := hv.lenV Try.underlying22
  have hc2 : (6912 : Int) < (l.length : Int) := by omega
  refine SF.go hm Try.func9 ir9_eq ?_
  simp -implicitDefEqProofs (disch := (first | omega | (simp -implicitDefEqProofs only [szs, ne_eq] <;> omega) | fail)) only [go_sem, seval, ↓reduceIte, reduceCtorEq, ir9, ↓hlen, hc2, undefV]
theorem app_long {S : Set'} {v : V} {l : List V} (hl : LgX h N lp bd fr ct G) (hR : ∀ b, R b) (hv : LR h S v l) (hll : 6912 < l.length) : SF Try.prog 13 [.ptr (some (lp, 0)), v] h R W fun r g => r = .tuple [.int .i64 0, .int .i64 3] ∧ g = h := by
  have hR' : ∀ b, h.n ≤ b ∨ R b := fun b => .inr (hR b)
  refine SF.go hm Try.func13 ir13_eq ?_
  rw [ir13_c_eq]
  simp -implicitDefEqProofs (disch := (first | omega | (simp -implicitDefEqProofs only [szs, ne_eq] <;> omega) | fail)) only [go_sem, seval, ↓reduceIte, reduceCtorEq, ir13_c, undefV]
  refine GCall.of (lthere_ok hl hR') ?_
  rintro r g ⟨rfl, rfl⟩
  simp -implicitDefEqProofs (disch := (first | omega | (simp -implicitDefEqProofs only [szs, ne_eq] <;> omega) | fail)) only [go_sem, seval, ↓reduceIte, reduceCtorEq, undefV]
  refine GCall.of (parts_long hv hll) ?_
  rintro r g ⟨rfl, rfl⟩
  simp -implicitDefEqProofs (disch := (first | omega | (simp -implicitDefEqProofs only [szs, ne_eq] <;> omega) | fail)) only [go_sem, seval, ↓reduceIte, reduceCtorEq, undefV]
theorem few_snap {l : List V} {base : Nat} (h : Few D j) : ∀ K, Few (snapW D base l K) (j + K)
  | 0 => h
  | K + 1 => (few_snap h K).write
theorem few_ck {l : List V} (h : Few D j) : Few (ckD D fr ct G l) (j + secsN l.length + 1) := few_lay (few_snap h _).flush
def HwS (h g : Heap) (bd lp p : Nat) : Prop := h.n ≤ g.n ∧ (∀ k, k < h.n → g.get k = h.get k) ∧ ∃ M N D G, Pg g h.n M N bd lp 0 40 D G ∧ Coh D.seen 0 40 (p + 1) G ∧ Few D (100 * p + 1) ∧ D.n = 40 ∧ G.rs.length ≤ p ∧ Byt G.sn ∧ G.sn.length ≤ 1000000
theorem HwS.more {p : Nat} (hs : HwS h g bd lp p) : HwS h g bd lp (p + 1) := by
  obtain ⟨h1, h2, M, N, D, G, h3, h4, h5, h6, h7, h8⟩ := hs
  exact ⟨h1, h2, M, N, D, G, h3, ⟨h4.o, h4.old, h4.all, ⟨by have := h4.bd; omega, by have := h4.bd; omega⟩, h4.at'⟩, h5.mono (by omega), h6, by omega, h8⟩
theorem HwS.old {p : Nat} (hs : HwS h g bd lp p) (hn : g.n ≤ g'.n) (hk : ∀ k, k < g.n → g'.get k = g.get k) : HwS h g' bd lp p := by
  obtain ⟨h1, h2, M, N, D, G, h3, h4⟩ := hs
  exact ⟨by omega, fun k hk' => by rw [hk k (by omega), h2 k hk'], M, N, D, G, h3.old hn fun k _ h => hk k h, h4⟩
theorem hw_app {p : Nat} {v : V} {l : List V} (hs : HwS h g bd lp p) (hp : p ≤ 20) (hR : ∀ b, R b) (hW : ∀ k, h.n ≤ k → W k) (hd : DatV h v l) : SF ⟨Try.prog, true⟩ 13 [.ptr (some (lp, 0)), v] g R W fun _ g' => HwS h g' bd lp (p + 1) := by
  obtain ⟨h1, h2, M, N, D, G, h3, h4, h5, h6, h7, h8, h9⟩ := id hs
  have hv : LR g (fun b => b < h.n) v l := hd.r.old h2
  by_cases hl : 6912 < l.length
  · refine SF.mono (app_long h3.l hR hv hl).any ?_
    rintro r g' ⟨_, rfl⟩
    exact hs.more
  by_cases hf : (40 - 2) / 2 < (partsN l.length).1 + G.at'
  · have := h4.bd
    have hlo := h3.lo
    refine SF.mono (append_ok h3.x h3.l h3.ne (by rw [h6]; omega) hR (fun k hk => hW k (h3.lo k hk)) hv (fun k hk => ⟨by omega, fun h => by have := hlo k (.inl h); omega, fun h => by have := hlo k (.inr h); omega⟩) hd.cp hd.by' (by omega) h4.o.ok.ha ⟨by omega, by omega⟩ h4.at' (by omega) (h5.lt (by omega))).any ?_
    intro r g' hq
    unfold AppQ at hq
    rw [if_neg hl, if_pos hf] at hq
    exact hs.more.old hq.2.1 hq.2.2
  · have hlo := h3.lo
    refine SF.mono (app_pg h3 h1 h4 (by omega) h5 (by omega) (by rw [h6]; omega) hR hW hv (fun k hk => ⟨by omega, fun h => by have := hlo k (.inl h); omega, fun h => by have := hlo k (.inr h); omega⟩) hd.cp hd.by' (by omega) (by omega) (by omega)) ?_
    rintro r g' ⟨_, hq⟩
    obtain ⟨⟨n2, k2⟩, M2, N2, hp2, _⟩ := h3.two h1 hq
    have := partsN_le l.length
    exact ⟨by omega, fun k hk => by rw [k2 k hk, h2 k hk], M2, N2, _, _, hp2, h4.app (by omega) (by omega) (by omega), (few_app h5 _).mono (by omega), (appW_n _ _ _ _ _ _ _).trans h6, by show (G.rs ++ [l]).length ≤ _; rw [List.length_append]; simp; omega, h8, h9⟩
theorem hw_sync {p : Nat} (hs : HwS h g bd lp p) (hp : p ≤ 20) (hR : ∀ b, R b) (hW : ∀ k, h.n ≤ k → W k) : SF ⟨Try.prog, true⟩ 14 [.ptr (some (lp, 0))] g R W fun _ g' => (∃ M N D G, Pg g' h.n M N bd lp 0 40 D G ∧ Coh D.seen 0 40 (p + 1) G ∧ Few D (100 * p + 1) ∧ D.n = 40 ∧ G.rs.length ≤ p ∧ Byt G.sn ∧ G.sn.length ≤ 1000000 ∧ ∀ s, s < 40 → D.fl s = D.seen s ∧ D.pe s = []) ∧ h.n ≤ g'.n ∧ ∀ k, k < h.n → g'.get k = h.get k := by
  obtain ⟨h1, h2, M, N, D, G, h3, h4, h5, h6, h7, h8, h9⟩ := hs
  have := h4.bd
  have := h4.o.nx
  refine SF.mono (sync_ok h3.x h3.l h3.ne (by rw [h6]; omega) hR (fun k hk => hW k (h3.lo k (.inl hk))) (hW lp (h3.lo lp (.inr h3.l.l))) ⟨by omega, by omega⟩).any ?_
  rintro r g' ⟨_, hq⟩
  obtain ⟨⟨n2, k2⟩, M2, N2, hp2, _⟩ := h3.two h1 hq
  have hsn : (D.flush 0 40).seen = D.seen := funext fun x => seen_flush D 0 40 x
  refine ⟨⟨M2, N2, _, _, hp2, by rw [hsn]; exact h4.sy _, h5.flush, h6, h7, h8, h9, fun s hs => ⟨?_, ?_⟩⟩, by omega, fun k hk => by rw [k2 k hk, h2 k hk]⟩
  · rw [hsn]
    show (if 0 ≤ s ∧ s < 0 + 40 then D.seen s else D.fl s) = _
    rw [if_pos (by omega)]
  · show (if 0 ≤ s ∧ s < 0 + 40 then [] else D.pe s) = _
    rw [if_pos (by omega)]
theorem hw_ck {p : Nat} {v : V} {l : List V} (hs : HwS h g bd lp p) (hp : p ≤ 20) (hR : ∀ b, R b) (hW : ∀ k, h.n ≤ k → W k) (hd : DatV h v l) : SF ⟨Try.prog, true⟩ 18 [.ptr (some (lp, 0)), v] g R W fun _ g' => HwS h g' bd lp (p + 1) := by
  obtain ⟨h1, h2, M, N, D, G, h3, h4, h5, h6, h7, h8, h9⟩ := id hs
  have hv : LR g (fun b => b < h.n) v l := hd.r.old h2
  have := h4.bd
  have hnx := h4.o.nx
  refine SF.mono (checkpoint_ok h3.x h3.l h3.ne (by rw [h6]; omega) hR (fun k hk => hW k (h3.lo k hk)) hv (fun k hk => by omega) hd.by' h4.o.ok.ha ⟨by omega, by omega, hnx⟩ (h5.lt' (by omega))) ?_
  intro r g' hq
  unfold CkQ at hq
  by_cases hl : (40 - 2) / 2 * 120 < l.length
  · rw [if_pos hl] at hq
    exact hs.more.old hq.2.1 hq.2.2
  · rw [if_neg hl, h4.ckG (by omega) (by omega) (by omega)] at hq
    obtain ⟨⟨n2, k2⟩, M2, N2, hp2, _⟩ := h3.two h1 hq.2
    have hsec : secsN l.length = (l.length + 119) / 120 := rfl
    exact ⟨by omega, fun k hk => by rw [k2 k hk, h2 k hk], M2, N2, _, _, hp2, h4.ck (by omega) (by omega) (by omega) _, (few_ck h5).mono (by omega), (snapW_n _ _ _ _).trans h6, Nat.zero_le _, hd.by', by show l.length ≤ _; omega⟩
set_option maxHeartbeats 4000000 in
theorem hw_l0 {Q : Ex → Fr → Heap → Prop} {t : List It} {tr : Tr V} {v x1 x2 : V} {m : Nat} (hR : ∀ b, R b) (hW : ∀ k, h.n ≤ k → W k) (hv : StepsR h v m) (hm20 : m ≤ 20) (hs : HwS h g bd lp 0) (t0 : tr.get 0 = some v) (t1 : tr.get 1 = some x1) (t2 : tr.get 2 = some x2) (t7 : tr.get 7 = some (.ptr (some (bd, 0)))) (t9 : tr.get 9 = some (.ptr (some (lp, 0)))) (t11 : tr.get 11 = some (.int .i64 0))
    (hk : ∀ tr g, tr.get 1 = some x1 → tr.get 2 = some x2 → tr.get 7 = some (.ptr (some (bd, 0))) → tr.get 9 = some (.ptr (some (lp, 0))) → HwS h g bd lp m → GO ⟨Try.prog, true⟩ R W none Q t ⟨⟨179, tr⟩, []⟩ g) : GLoop ⟨Try.prog, true⟩ R W none Q ir6_l0 (.blk 0 :: t) ⟨⟨179, tr⟩, []⟩ g := by
  refine GLoop.inv Go.Proofs.Ytakgjjbmniilhaa.hm (fun k f g => f.mks = [] ∧ f.tm.n = 179 ∧ f.tm.get 0 = some v ∧ f.tm.get 1 = some x1 ∧ f.tm.get 2 = some x2 ∧ f.tm.get 7 = some (.ptr (some (bd, 0))) ∧ f.tm.get 9 = some (.ptr (some (lp, 0))) ∧ ∃ p : Nat, p + k = m ∧ f.tm.get 11 = some (.int .i64 (p : Int)) ∧ HwS h g bd lp p) m ?_ ?_
  · exact ⟨rfl, rfl, t0, t1, t2, t7, t9, 0, by omega, t11, hs⟩
  clear t0 t1 t2 t7 t9 t11 hs
  clear tr
  rintro k ⟨⟨n', tr⟩, mks⟩ g ⟨hmk, hn', t0, t1, t2, t7, t9, p, hpk, t11, hs⟩
  simp only [Tm.get_mk] at hmk hn' t0 t1 t2 t7 t9 t11
  subst hmk hn'
  have hlen := hv.len
  by_cases hp : p < m
  rotate_left
  · have hc : ¬ (p : Int) < (m : Int) := by omega
    simp -implicitDefEqProofs (disch := (first | omega | (simp -implicitDefEqProofs only [szs, ne_eq] <;> omega) | fail)) only [go_sem, seval, ↓reduceIte, reduceCtorEq, ir6_l0, t0, t1, t2, t7, t9, t11, ↓hlen, hc]
    have : p = m := by omega
    subst this
    exact hk _ _ (by simp -implicitDefEqProofs (disch := (first | omega | (simp -implicitDefEqProofs only [szs, ne_eq] <;> omega) | fail)) only [go_sem, seval, ↓reduceIte, reduceCtorEq, t1]) (by simp -implicitDefEqProofs (disch := (first | omega | (simp -implicitDefEqProofs only [szs, ne_eq] <;> omega) | fail)) only [go_sem, seval, ↓reduceIte, reduceCtorEq, t2]) (by simp -implicitDefEqProofs (disch := (first | omega | (simp -implicitDefEqProofs only [szs, ne_eq] <;> omega) | fail)) only [go_sem, seval, ↓reduceIte, reduceCtorEq, t7]) (by simp -implicitDefEqProofs (disch := (first | omega | (simp -implicitDefEqProofs only [szs, ne_eq] <;> omega) | fail)) only [go_sem, seval, ↓reduceIte, reduceCtorEq, t9]) hs
  have hc : (p : Int) < (m : Int) := by omega
  rcases hv.st with ⟨h0, _⟩ | ⟨b, o, cap, c, ce, rfl, hb, hsz, hcc⟩
  · omega
  obtain ⟨⟨n, e0, b1, b2⟩, ⟨l, hd⟩, _⟩ := hcc p hp
  obtain ⟨h1, h2, _⟩ := id hs
  have hgb := (h2 b (Heap.lt_of_get hb)).trans hb
  have hp0 : (0 : Int) ≤ (p : Int) := by omega
  have hRb := hR b
  have e1 : (p : Int) + 1 = ((p + 1 : Nat) : Int) := by omega
  have ho1 : o + p * 3 < c.size := by omega
  have ho2 : o + p * 3 + 1 < c.size := by omega
  have hdo : ∀ v, c.get (o + p * 3 + 1) = v → v.one = true := fun v e => by rw [← e]; exact hd.r.one
  by_cases k1 : n = 1
  · subst k1
    simp -implicitDefEqProofs (disch := (first | omega | (simp -implicitDefEqProofs only [szs, ne_eq] <;> omega) | fail)) only [go_sem, seval, ↓reduceIte, reduceCtorEq, ir6_l0, undefV, t0, t1, t2, t7, t9, t11, ↓hlen, hc, hp0, hgb, e0, hRb, ho1, ho2]
    refine GCall.of (hw_app hs (by omega) hR hW hd) ?_
    rintro r g' hs'
    simp -implicitDefEqProofs (disch := (first | omega | (simp -implicitDefEqProofs only [szs, ne_eq] <;> omega) | fail)) only [go_sem, seval, ↓reduceIte, reduceCtorEq, undefV, t0, t1, t2, t7, t9, t11, e1]
    exact ⟨k - 1, by omega, p + 1, by omega, rfl, hs'⟩
  have q1 : (n == 1) = false := by simpa using k1
  by_cases k2 : n = 2
  · subst k2
    simp -implicitDefEqProofs (disch := (first | omega | (simp -implicitDefEqProofs only [szs, ne_eq] <;> omega) | fail)) only [go_sem, seval, ↓reduceIte, reduceCtorEq, ir6_l0, undefV, t0, t1, t2, t7, t9, t11, ↓hlen, hc, hp0, hgb, e0, hRb, ho1, ho2]
    refine GCall.of (hw_sync hs (by omega) hR hW) ?_
    rintro r g' ⟨⟨M, N, D, G, h3, h4, h5, h6, h7, h8, h9, _⟩, n1, k1'⟩
    simp -implicitDefEqProofs (disch := (first | omega | (simp -implicitDefEqProofs only [szs, ne_eq] <;> omega) | fail)) only [go_sem, seval, ↓reduceIte, reduceCtorEq, undefV, t0, t1, t2, t7, t9, t11, e1]
    exact ⟨k - 1, by omega, p + 1, by omega, rfl, HwS.more ⟨n1, k1', M, N, D, G, h3, h4, h5, h6, h7, h8, h9⟩⟩
  have q2 : (n == 2) = false := by simpa using k2
  by_cases k3 : n = 3
  · subst k3
    simp -implicitDefEqProofs (disch := (first | omega | (simp -implicitDefEqProofs only [szs, ne_eq] <;> omega) | fail)) only [go_sem, seval, ↓reduceIte, reduceCtorEq, ir6_l0, undefV, t0, t1, t2, t7, t9, t11, ↓hlen, hc, hp0, hgb, e0, hRb, ho1, ho2]
    refine GCall.of (hw_ck hs (by omega) hR hW hd) ?_
    rintro r g' hs'
    simp -implicitDefEqProofs (disch := (first | omega | (simp -implicitDefEqProofs only [szs, ne_eq] <;> omega) | fail)) only [go_sem, seval, ↓reduceIte, reduceCtorEq, undefV, t0, t1, t2, t7, t9, t11, e1]
    exact ⟨k - 1, by omega, p + 1, by omega, rfl, hs'⟩
  have q3 : (n == 3) = false := by simpa using k3
  simp -implicitDefEqProofs (disch := (first | omega | (simp -implicitDefEqProofs only [szs, ne_eq] <;> omega) | fail)) only [go_sem, seval, ↓reduceIte, reduceCtorEq, ir6_l0, undefV, t0, t1, t2, t7, t9, t11, ↓hlen, hc, hp0, hgb, e0, hRb, ho1, ho2, q1, q2, q3, e1]
  exact ⟨k - 1, by omega, p + 1, by omega, rfl, hs.more⟩
end Go.Proofs.Ytakgjjbmniilhaa
set_option maxRecDepth 100000
set_option linter.unusedVariables false
set_option linter.unusedSimpArgs false
namespace Go.Proofs.Ytakgjjbmniilhaa
open Go Go.Vm
attribute [-go_sem] sz_101
variable {h g g' : Heap} {R W M N X : Set'} {bd lp bd' lm j : Nat} {D DN : DS} {G Gm : LgS}
theorem sbn (a b : ByteArray) : strBin .neq a b = some (.bool (decide (a ≠ b))) := by
  have := sb_eql a b
  unfold strBin at this ⊢
  simp only [Option.some.injEq, V.bool.injEq] at this ⊢
  simp [this]
open Classical in
noncomputable def wrD (D DN : DS) : Nat → DS
  | 0 => D
  | i + 1 => if 2 ≤ i ∧ DN.seen i ≠ (wrD D DN i).seen i then (wrD D DN i).write i (DN.seen i) else wrD D DN i
theorem wrD_n (D DN : DS) : ∀ i, (wrD D DN i).n = D.n
  | 0 => rfl
  | i + 1 => by unfold wrD; split; exact wrD_n D DN i; exact wrD_n D DN i
theorem wrD_fl (D DN : DS) : ∀ i, (wrD D DN i).fl = D.fl
  | 0 => rfl
  | i + 1 => by unfold wrD; split; exact wrD_fl D DN i; exact wrD_fl D DN i
theorem few_wr (h : Few D j) : ∀ i, Few (wrD D DN i) (j + i)
  | 0 => h
  | i + 1 => by unfold wrD; split; exact (few_wr h i).write; exact (few_wr h i).mono (by omega)
theorem wrD_seen (D DN : DS) {s : Nat} : ∀ i, i ≤ s → (wrD D DN i).seen s = D.seen s
  | 0, _ => rfl
  | i + 1, hi => by
    unfold wrD
    split
    · rw [seen_write, if_neg (by omega)]; exact wrD_seen D DN i (by omega)
    · exact wrD_seen D DN i (by omega)
theorem wrD_pe (D DN : DS) {s : Nat} (hs : s < 2 ∨ DN.seen s = D.seen s) : ∀ i, (wrD D DN i).pe s = D.pe s
  | 0 => rfl
  | i + 1 => by
    unfold wrD
    split
    · rename_i hc
      show (if s = i then _ else _) = _
      rw [if_neg (fun e => ?_)]
      · exact wrD_pe D DN hs i
      · subst e
        rcases hs with h | h
        · omega
        · exact hc.2 (by rw [h, wrD_seen D DN s (Nat.le_refl _)])
    · exact wrD_pe D DN hs i
structure HwT (h g : Heap) (bd lp bd' lm : Nat) (D DN : DS) (G Gm : LgS) (p : Nat) : Prop where
  n : h.n ≤ g.n
  k : ∀ k, k < h.n → g.get k = h.get k
  x : ∃ M X : Set', DkX g M bd (wrD D DN p) ∧ (∀ k, M k → h.n ≤ k) ∧ (∀ k, X k → ¬ M k ∧ k < g.n) ∧ LgX g X lp bd 0 40 G ∧ DkX g X bd' DN ∧ LgX g X lm bd' 0 40 Gm
set_option maxHeartbeats 4000000 in
theorem hw_l1 {Q : Ex → Fr → Heap → Prop} {t : List It} {tr : Tr V} {x1 x2 x9 x12 x14 x15 : V} (hR : ∀ b, R b) (hW : ∀ k, h.n ≤ k → W k) (hs : HwT h g bd lp bd' lm D DN G Gm 0) (hD : D.n = 40 ∧ DN.n = 40) (hf : Few D j) (hj : j ≤ 100000)
    (t1 : tr.get 1 = some x1) (t2 : tr.get 2 = some x2) (t7 : tr.get 7 = some (.ptr (some (bd, 0)))) (t9 : tr.get 9 = some x9) (t12 : tr.get 12 = some x12) (t13 : tr.get 13 = some (.ptr (some (bd', 0)))) (t14 : tr.get 14 = some x14) (t15 : tr.get 15 = some x15) (t16 : tr.get 16 = some (.int .i64 0))
    (hk : ∀ tr g, tr.get 1 = some x1 → tr.get 2 = some x2 → tr.get 7 = some (.ptr (some (bd, 0))) → tr.get 9 = some x9 → tr.get 12 = some x12 → tr.get 14 = some x14 → tr.get 15 = some x15 → HwT h g bd lp bd' lm D DN G Gm 40 → GO ⟨Try.prog, true⟩ R W none Q t ⟨⟨179, tr⟩, []⟩ g) : GLoop ⟨Try.prog, true⟩ R W none Q ir6_l1 (.blk 3 :: t) ⟨⟨179, tr⟩, []⟩ g := by
  refine GLoop.inv Go.Proofs.Ytakgjjbmniilhaa.hm (fun k f g => f.mks = [] ∧ f.tm.n = 179 ∧ f.tm.get 1 = some x1 ∧ f.tm.get 2 = some x2 ∧ f.tm.get 7 = some (.ptr (some (bd, 0))) ∧ f.tm.get 9 = some x9 ∧ f.tm.get 12 = some x12 ∧ f.tm.get 13 = some (.ptr (some (bd', 0))) ∧ f.tm.get 14 = some x14 ∧ f.tm.get 15 = some x15 ∧ ∃ p : Nat, p + k = 40 ∧ f.tm.get 16 = some (.int .i64 (p : Int)) ∧ HwT h g bd lp bd' lm D DN G Gm p) 40 ?_ ?_
  · exact ⟨rfl, rfl, t1, t2, t7, t9, t12, t13, t14, t15, 0, by omega, t16, hs⟩
  clear t1 t2 t7 t9 t12 t13 t14 t15 t16 hs
  clear tr
  rintro k ⟨⟨n', tr⟩, mks⟩ g ⟨hmk, hn', t1, t2, t7, t9, t12, t13, t14, t15, p, hpk, t16, hs⟩
  simp only [Tm.get_mk] at hmk hn' t1 t2 t7 t9 t12 t13 t14 t15 t16
  subst hmk hn'
  by_cases hp : p < 40
  rotate_left
  · have hc : ¬ (p : Int) < 40 := by omega
    simp -implicitDefEqProofs (disch := (first | omega | (simp -implicitDefEqProofs only [szs, ne_eq] <;> omega) | fail)) only [go_sem, seval, ↓reduceIte, reduceCtorEq, ir6_l1, t1, t2, t7, t9, t12, t13, t14, t15, t16, hc]
    have : p = 40 := by omega
    subst this
    exact hk _ _ (by simp -implicitDefEqProofs (disch := (first | omega | (simp -implicitDefEqProofs only [szs, ne_eq] <;> omega) | fail)) only [go_sem, seval, ↓reduceIte, reduceCtorEq, t1]) (by simp -implicitDefEqProofs (disch := (first | omega | (simp -implicitDefEqProofs only [szs, ne_eq] <;> omega) | fail)) only [go_sem, seval, ↓reduceIte, reduceCtorEq, t2]) (by simp -implicitDefEqProofs (disch := (first | omega | (simp -implicitDefEqProofs only [szs, ne_eq] <;> omega) | fail)) only [go_sem, seval, ↓reduceIte, reduceCtorEq, t7]) (by simp -implicitDefEqProofs (disch := (first | omega | (simp -implicitDefEqProofs only [szs, ne_eq] <;> omega) | fail)) only [go_sem, seval, ↓reduceIte, reduceCtorEq, t9]) (by simp -implicitDefEqProofs (disch := (first | omega | (simp -implicitDefEqProofs only [szs, ne_eq] <;> omega) | fail)) only [go_sem, seval, ↓reduceIte, reduceCtorEq, t12]) (by simp -implicitDefEqProofs (disch := (first | omega | (simp -implicitDefEqProofs only [szs, ne_eq] <;> omega) | fail)) only [go_sem, seval, ↓reduceIte, reduceCtorEq, t14]) (by simp -implicitDefEqProofs (disch := (first | omega | (simp -implicitDefEqProofs only [szs, ne_eq] <;> omega) | fail)) only [go_sem, seval, ↓reduceIte, reduceCtorEq, t15]) hs
  have hc : (p : Int) < 40 := by omega
  obtain ⟨n0, k0, M, X, hx, hM, hX, hl, hy, hlm⟩ := hs
  have e1 : (p : Int) + 1 = ((p + 1 : Nat) : Int) := by omega
  simp -implicitDefEqProofs (disch := (first | omega | (simp -implicitDefEqProofs only [szs, ne_eq] <;> omega) | fail)) only [go_sem, seval, ↓reduceIte, reduceCtorEq, ir6_l1, undefV, t1, t2, t7, t9, t12, t13, t14, t15, t16, hc]
  refine GCall.of (read_dk hy hR (s := p) (by omega)).any ?_
  rintro r g1 ⟨b1, rfl, v1, n1, k1⟩
  have hx1 := hx.old n1 k1
  simp -implicitDefEqProofs (disch := (first | omega | (simp -implicitDefEqProofs only [szs, ne_eq] <;> omega) | fail)) only [go_sem, seval, ↓reduceIte, reduceCtorEq, undefV, t1, t2, t7, t9, t12, t13, t14, t15, t16]
  refine GCall.of (read_dk hx1 hR (s := p) (by rw [wrD_n]; omega)).any ?_
  rintro r g2 ⟨b2, rfl, v2, n2, k2⟩
  have hx2 := hx1.old n2 k2
  have v1' := v1.old k2
  have s1 := hy.sec (s := p) (by omega)
  have s2 := hx.sec (s := p) (by rw [wrD_n]; omega)
  obtain ⟨r1, cv1⟩ := conv_lr v1' s1.2
  obtain ⟨r2, cv2⟩ := conv_lr v2 s2.2
  have q1 : allB R r1 := allB_of fun b _ => hR b
  have q2 : allB R r2 := allB_of fun b _ => hR b
  have k12 : ∀ k, k < g.n → g2.get k = g.get k := fun k hk => by rw [k2 k (by omega), k1 k hk]
  have hinj : strB (DN.seen p) = strB ((wrD D DN p).seen p) ↔ DN.seen p = (wrD D DN p).seen p := strB_inj s1.2 s2.2
  have keep : HwT h g2 bd lp bd' lm D DN G Gm p := ⟨by omega, fun k hk => by rw [k12 k (by omega), k0 k hk], M, X, hx2, hM, fun k hk => ⟨(hX k hk).1, by have := (hX k hk).2; omega⟩, hl.keep (by omega) fun k h1 _ => k12 k h1, hy.old (by omega) k12, hlm.keep (by omega) fun k h1 _ => k12 k h1⟩
  by_cases he : DN.seen p = (wrD D DN p).seen p
  · have hx3 : decide (strB (DN.seen p) ≠ strB ((wrD D DN p).seen p)) = false := decide_eq_false fun h => h (hinj.2 he)
    simp -implicitDefEqProofs (disch := (first | omega | (simp -implicitDefEqProofs only [szs, ne_eq] <;> omega) | fail)) only [go_sem, seval, ↓reduceIte, reduceCtorEq, undefV, t1, t2, t7, t9, t12, t13, t14, t15, t16, ↓cvS, cv1, cv2, q1, q2, sbn, hx3, e1]
    refine ⟨k - 1, by omega, p + 1, by omega, rfl, ?_⟩
    have ew : wrD D DN (p + 1) = wrD D DN p := by rw [wrD, if_neg fun h => h.2 he]
    exact ⟨keep.n, keep.k, by rw [ew]; exact keep.x⟩
  have hx3 : decide (strB (DN.seen p) ≠ strB ((wrD D DN p).seen p)) = true := decide_eq_true fun h => he (hinj.1 h)
  by_cases h2 : p < 2
  · have hc2 : ¬ (2 : Int) ≤ (p : Int) := by omega
    simp -implicitDefEqProofs (disch := (first | omega | (simp -implicitDefEqProofs only [szs, ne_eq] <;> omega) | fail)) only [go_sem, seval, ↓reduceIte, reduceCtorEq, undefV, t1, t2, t7, t9, t12, t13, t14, t15, t16, ↓cvS, cv1, cv2, q1, q2, sbn, hx3, hc2, e1]
    refine ⟨k - 1, by omega, p + 1, by omega, rfl, ?_⟩
    have ew : wrD D DN (p + 1) = wrD D DN p := by rw [wrD, if_neg fun h => by omega]
    exact ⟨keep.n, keep.k, by rw [ew]; exact keep.x⟩
  have hc2 : (2 : Int) ≤ (p : Int) := by omega
  simp -implicitDefEqProofs (disch := (first | omega | (simp -implicitDefEqProofs only [szs, ne_eq] <;> omega) | fail)) only [go_sem, seval, ↓reduceIte, reduceCtorEq, undefV, t1, t2, t7, t9, t12, t13, t14, t15, t16, ↓cvS, cv1, cv2, q1, q2, sbn, hx3, hc2]
  refine GCall.of (write_dk hx2 hR (fun k hk => hW k (hM k hk)) (s := p) (by rw [wrD_n]; omega) v1' s1.1 s1.2 ((few_wr hf p).lt (by omega) p)).any ?_
  rintro r g3 ⟨rfl, ⟨n3, k3⟩, M3, hx4, hM3⟩
  simp -implicitDefEqProofs (disch := (first | omega | (simp -implicitDefEqProofs only [szs, ne_eq] <;> omega) | fail)) only [go_sem, seval, ↓reduceIte, reduceCtorEq, undefV, t1, t2, t7, t9, t12, t13, t14, t15, t16, e1]
  refine ⟨k - 1, by omega, p + 1, by omega, rfl, ?_⟩
  have ew : wrD D DN (p + 1) = (wrD D DN p).write p (DN.seen p) := by rw [wrD, if_pos ⟨by omega, he⟩]
  have hMh := fun k hk => hx2.lt k hk
  obtain ⟨_, _, _, X', _⟩ := keep.x
  have kX : ∀ k, X k → g3.get k = g2.get k := fun k hk => k3 k (by have := (hX k hk).2; omega) (hX k hk).1
  refine ⟨by omega, fun k hk => ?_, M3, X, by rw [ew]; exact hx4, fun k hk => (hM3 k hk).elim (hM k) fun h => by omega, fun k hk => ⟨fun h => (hM3 k h).elim (hX k hk).1 fun h => by have := (hX k hk).2; omega, by have := (hX k hk).2; omega⟩, ?_, ?_, ?_⟩
  · rw [k3 k (by omega) fun h => by have := hM k h; omega, k12 k (by omega), k0 k hk]
  · exact (hl.keep (by omega : g.n ≤ g2.n) fun k h1 _ => k12 k h1).keep n3 fun k _ h => kX k h
  · exact (hy.old (by omega) k12).same n3 kX
  · exact (hlm.keep (by omega : g.n ≤ g2.n) fun k h1 _ => k12 k h1).keep n3 fun k _ h => kX k h
end Go.Proofs.Ytakgjjbmniilhaa
set_option maxRecDepth 100000
set_option linter.unusedVariables false
set_option linter.unusedSimpArgs false
namespace Go.Proofs.Ytakgjjbmniilhaa
open Go Go.Vm
attribute [-go_sem] sz_101
variable {h g g' : Heap} {R W M N X : Set'} {bd lp bd' lm j : Nat} {D DN : DS} {G Gm Go : LgS}
noncomputable def ir6_z : LC := match ir6 with
  | .seq _ (.seq _ (.seq _ (.seq _ (.seq _ (.seq _ (.seq _ (.seq _ (.seq _ (.seq _ (.seq _ (.seq _ (.seq _ (.seq _ (.seq _ (.seq _ z))))))))))))))) => z
  | _ => .skip
noncomputable def ir6_y : LC := match ir6 with
  | .seq _ (.seq _ (.seq _ (.seq _ (.seq _ (.seq _ (.seq c7 (.seq c8 (.seq c9 (.seq c10 (.seq c11 (.seq c12 (.seq c13 (.seq c14 (.seq c15 (.seq c16 _))))))))))))))) => .seq c7 (.seq c8 (.seq c9 (.seq c10 (.seq c11 (.seq c12 (.seq c13 (.seq c14 (.seq c15 (.seq c16 ir6_z)))))))))
  | _ => .skip
noncomputable def ir6_x : LC := match ir6 with
  | .seq c1 (.seq c2 (.seq c3 (.seq c4 (.seq c5 (.seq c6 _))))) => .seq c1 (.seq c2 (.seq c3 (.seq c4 (.seq c5 (.seq c6 ir6_y)))))
  | _ => .skip
theorem ir6_x_eq : ir6 = ir6_x := rfl
set_option maxHeartbeats 8000000 in
theorem hw_z {tr : Tr V} {v : V} {ls : List V} {lo bo : Nat} {S : Set'} (hR : ∀ b, R b) (hl : LgX g X lp bd 0 40 G) (hlm : LgX g X lm bd' 0 40 Gm) (hlo : LgX g N lo bo 0 40 Go) (e1 : Go.nx = G.nx) (e2 : Go.sn = G.sn) (e3 : Gm.nx = G.nx) (e4 : Gm.sn = ls) (hb : Byt G.sn ∧ G.sn.length ≤ 1000000) (hbs : Byt ls ∧ ls.length ≤ 1000000) (hnx : G.nx ≤ 1000000) (hv : LR g S v ls) (hS : ∀ b, S b → b < g.n)
    (t1 : tr.get 1 = some v) (t9 : tr.get 9 = some (.ptr (some (lp, 0)))) (t10 : tr.get 10 = some (.int .i64 0)) (t12 : tr.get 12 = some (.int .i64 ((G.nx : Int) - 1))) (t14 : tr.get 14 = some (.ptr (some (lm, 0)))) (t15 : tr.get 15 = some (.bool true)) (t24 : tr.get 24 = some (.ptr (some (lo, 0)))) (hW : ∀ k, g.n ≤ k → W k) :
    GO ⟨Try.prog, true⟩ R W none (Vm.Fin ⟨Try.prog, true⟩ R W [.tmp 6] fun r _ => r = .bool true) [.code ir6_z] ⟨⟨179, tr⟩, []⟩ g := by
  simp -implicitDefEqProofs (disch := (first | omega | (simp -implicitDefEqProofs only [szs, ne_eq] <;> omega) | fail)) only [go_sem, seval, ↓reduceIte, reduceCtorEq, ir6_z, ir6, undefV, t1, t9, t10, t12, t14, t15, t24]
  refine GCallD.of (R' := allR) (W' := noW) (last_ok hlo (fun _ => trivial) (by omega)).any ?_
  rintro r g0 ⟨rfl, rfl⟩
  have q1 : (Go.nx : Int) - 1 = (G.nx : Int) - 1 := by omega
  simp -implicitDefEqProofs (disch := (first | omega | (simp -implicitDefEqProofs only [szs, ne_eq] <;> omega) | fail)) only [go_sem, seval, ↓reduceIte, reduceCtorEq, undefV, t1, t9, t10, t12, t14, t15, t24, q1]
  refine GCallD.of (R' := allR) (W' := noW) (snapshot_ok hlo (fun _ => trivial) (by rw [e2]; exact hb.1) (by rw [e2]; exact hb.2)).kept.any ?_
  rintro r1 g1 ⟨⟨o1, k1⟩, vf1⟩
  have n1 := vf1.n
  rw [e2] at o1
  obtain ⟨s1, f1, p1⟩ := conv_lrB o1.lr hb.1
  have hl1 := hl.keep n1 fun k h _ => k1 k h
  have hlm1 := hlm.keep n1 fun k h _ => k1 k h
  simp -implicitDefEqProofs (disch := (first | omega | (simp -implicitDefEqProofs only [szs, ne_eq] <;> omega) | fail)) only [go_sem, seval, ↓reduceIte, reduceCtorEq, undefV, t1, t9, t10, t12, t14, t15, t24, ↓cvSD, f1]
  refine GCallD.of (R' := allR) (W' := noW) (snapshot_ok hl1 (fun _ => trivial) hb.1 hb.2).kept.any ?_
  rintro r2 g2 ⟨⟨o2, k2⟩, vf2⟩
  have n2 := vf2.n
  obtain ⟨s2, f2, p2⟩ := conv_lrB o2.lr hb.1
  have hlm2 := hlm1.keep n2 fun k h _ => k2 k h
  have q2 : decide (strB G.sn = strB G.sn) = true := decide_eq_true rfl
  simp -implicitDefEqProofs (disch := (first | omega | (simp -implicitDefEqProofs only [szs, ne_eq] <;> omega) | fail)) only [go_sem, seval, ↓reduceIte, reduceCtorEq, undefV, t1, t9, t10, t12, t14, t15, t24, ↓cvSD, f2, sb_eql, q2]
  refine GCallD.of (R' := allR) (W' := noW) (snapshot_ok hlm2 (fun _ => trivial) (by rw [e4]; exact hbs.1) (by rw [e4]; exact hbs.2)).kept.any ?_
  rintro r3 g3 ⟨⟨o3, k3⟩, vf3⟩
  have n3 := vf3.n
  rw [e4] at o3
  obtain ⟨s3, f3, p3⟩ := conv_lrB o3.lr hbs.1
  have hv3 : LR g3 S v ls := ((hv.old k1).old k2).old k3
  obtain ⟨s4, f4, p4⟩ := conv_lrB hv3 hbs.1
  have hlm3 := hlm2.keep n3 fun k h _ => k3 k h
  have q3 : decide (strB ls = strB ls) = true := decide_eq_true rfl
  simp -implicitDefEqProofs (disch := (first | omega | (simp -implicitDefEqProofs only [szs, ne_eq] <;> omega) | fail)) only [go_sem, seval, ↓reduceIte, reduceCtorEq, undefV, t1, t9, t10, t12, t14, t15, t24, ↓cvSD, f3, f4, sb_eql, q3]
  refine GCallD.of (R' := allR) (W' := noW) (last_ok hlm3 (fun _ => trivial) (by omega)).any ?_
  rintro r g4 ⟨rfl, rfl⟩
  have q4 : (Gm.nx : Int) - 1 = (G.nx : Int) - 1 := by omega
  simp -implicitDefEqProofs (disch := (first | omega | (simp -implicitDefEqProofs only [szs, ne_eq] <;> omega) | fail)) only [go_sem, seval, ↓reduceIte, reduceCtorEq, undefV, t1, t9, t10, t12, t14, t15, t24, q4]
  refine GCallD.dem (R' := allR) (W' := noW) (known_c (R := allR) (W := noW) fun _ => trivial) rfl ?_ ?_ ?_
  · have p4' : ∀ b, b ∈ s4 → b < g0.n := fun b hb => hS b (p4 b hb).1
    have p2' : ∀ b, b ∈ s2 → g1.n ≤ b := fun b hb => (p2 b hb).1
    refine ⟨⟨?_, ?_⟩, ⟨?_, ?_⟩, ⟨?_, ?_⟩, ⟨?_, ?_⟩, ⟨?_, ?_⟩, ⟨?_, ?_⟩, trivial⟩ <;> (intro b hb hc; simp [noW, allR] at hb hc <;> first | omega | (have := p4' b hc.2; omega))
  · simp only [List.cons_append, List.nil_append, footP]
    and_intros
    all_goals (try trivial)
    all_goals (intros; first | trivial | exact hR _ | exact (by assumption : False).elim | simp_all)
  rintro r g5 rfl
  simp -implicitDefEqProofs (disch := (first | omega | (simp -implicitDefEqProofs only [szs, ne_eq] <;> omega) | fail)) only [go_sem, seval, ↓reduceIte, reduceCtorEq, undefV]
  refine ⟨?_, ?_⟩
  · have p4' : ∀ b, b ∈ s4 → b < g0.n := fun b hb => hS b (p4 b hb).1
    and_intros
    all_goals (intro b hb hc; simp [noW, allR] at hb hc <;> first | omega | (have := p4' b hc.2; omega))
  · and_intros
    all_goals (intros; first | exact hR _ | exact (by assumption : noW _).elim | exact (by assumption : False).elim | simp_all)
end Go.Proofs.Ytakgjjbmniilhaa
