/- A disk and its log, in memory, and the log's laws upon it: one machine. -/
import Derived.Test.YtakgjjbmniilhaaLF
import Derived.Test.YtakgjjbmniilhaaMg19
import Derived.Test.YtakgjjbmniilhaaMg17
import Derived.Test.YtakgjjbmniilhaaIr3
set_option linter.unusedVariables false
set_option maxRecDepth 100000
set_option linter.unusedVariables false
namespace Go.Proofs.Ytakgjjbmniilhaa
open Go Go.Vm
attribute [-go_sem] qQ
variable {h g g' : Heap} {R W M N : Set'} {bd lp fr ct n0 k j : Nat} {D D2 : DS} {G G2 : LgS} {E E' : Nat → List V}
structure Pg (g : Heap) (n0 : Nat) (M N : Set') (bd lp fr ct : Nat) (D : DS) (G : LgS) : Prop where
 x : DkX g M bd D
 l : LgX g N lp bd fr ct G
 ne : ∀ k, N k → ¬ M k
 lo : ∀ k, M k ∨ N k → n0 ≤ k
theorem Pg.lt (hp : Pg g n0 M N bd lp fr ct D G) : ∀ k, M k ∨ N k → k < g.n := fun k hk => hk.elim (hp.x.lt k) (hp.l.lt k)
theorem Pg.two {lp2 : Nat} (hp : Pg g n0 M N bd lp fr ct D G) (hn : n0 ≤ g.n) (hq : TwoQ g g' M N lp2 bd fr ct D2 G2) : (g.n ≤ g'.n ∧ ∀ k, k < n0 → g'.get k = g.get k) ∧ ∃ M2 N2, Pg g' n0 M2 N2 bd lp2 fr ct D2 G2 ∧ ∀ k, M2 k ∨ N2 k → (M k ∨ N k) ∨ g.n ≤ k := by
 obtain ⟨h1, h2, M2, N2, h3, h4, h5, h6, h7⟩ := hq
 have hlo := hp.lo
 have hM : ∀ k, M2 k ∨ N2 k → (M k ∨ N k) ∨ g.n ≤ k := fun k hk => hk.elim (fun h => (h5 k h).imp .inl id) fun h => (h6 k h).imp .inr id
 exact ⟨⟨h1, fun k hk => h2 k (by omega) (fun h => by have := hlo k (.inl h); omega) fun h => by have := hlo k (.inr h); omega⟩, M2, N2, ⟨h3, h4, h7, fun k hk => (hM k hk).elim (hlo k) fun h => by omega⟩, hM⟩
theorem Pg.old (hp : Pg g n0 M N bd lp fr ct D G) (hn : g.n ≤ g'.n) (hk : ∀ k, n0 ≤ k → k < g.n → g'.get k = g.get k) : Pg g' n0 M N bd lp fr ct D G := by
 have hlo := hp.lo
 exact ⟨hp.x.same hn fun k h => hk k (hlo k (.inl h)) (hp.x.lt k h), hp.l.keep hn fun k h1 h2 => hk k (hlo k (.inr h2)) h1, hp.ne, hlo⟩
theorem app_pg {S : Set'} {v : V} {l : List V} (hp : Pg h n0 M N bd lp fr ct D G) (hn : n0 ≤ h.n) (hc : Coh D.seen fr ct k G) (hk : k ≤ 100000) (hf : Few D j) (hj : j ≤ 100000) (hcc : 16 ≤ ct ∧ fr + ct ≤ D.n) (hR : ∀ b, R b) (hW : ∀ k, n0 ≤ k → W k)
  (hv : LR h S v l) (hS : ∀ k, S k → k < h.n ∧ ¬ M k ∧ ¬ N k) (hcap : xU v) (hby : Byt l) (hll : l.length ≤ 6912) (hpa : (kF l.length).1 + G.at' ≤ (ct - 2) / 2) (hrs : G.rs.length ≤ 100000) :
  SF ⟨Try.prog, true⟩ 13 [.ptr (some (lp, 0)), v] h R W fun r g => r = .tuple [.int .i64 (G.nx : Int), .int .i64 0] ∧ TwoQ h g M N lp bd fr ct (appW D fr ct G l (kF l.length).1 (kF l.length).1) { G with at' := G.at' + (kF l.length).1, nx := G.nx + 1, rs := G.rs ++ [l] } := by
 have := hc.bd
 refine SF.mono (append_ok hp.x hp.l hp.ne hcc hR (fun k hk => hW k (hp.lo k hk)) hv hS hcap hby (by omega) hc.o.ok.ha ⟨by omega, by omega⟩ hc.at' (by omega) (hf.lt (by omega))).any ?_
 intro r g hq
 unfold AppQ at hq
 rw [if_neg (by omega), if_neg (by omega)] at hq
 exact hq
theorem Few.lt' {k : Nat} (h : Few D k) (hk : k < 1000000) : ∀ s, (D.pe s).length < 1000000 := fun s => Nat.lt_of_le_of_lt (h s) hk
theorem seen_crash (D : DS) (f : Nat → List V) (x : Nat) : (D.crashed f).seen x = f x := rfl
theorem Coh.sy (h : Coh E fr ct k G) (s : Nat) : Coh E fr ct k { G with sy := s } := ⟨⟨h.o.ok, h.o.may, h.o.hd, h.o.hd', h.o.ch, h.o.stop, h.o.sn⟩, h.old, h.all, h.bd, h.at'⟩
theorem Coh.sz (h : Coh E fr ct k G) : qL G.H.sz ≤ (ct - 2) / 2 := by
 have := h.o.may.2.2.2.2
 show (G.H.sz + 119) / 120 ≤ _
 omega
theorem sec_same {b : Nat} (hc : 16 ≤ ct) (hs : ∀ x, x < fr + ct → E' x = E x) (hb : b < 2) {i : Nat} (hi : i < (ct - 2) / 2) : zC E' fr ct b i = zC E fr ct b i := by
 have := half_lt hb hi
 exact hs _ (by omega)
theorem Coh.same (h : Coh E fr ct k G) (hc : 16 ≤ ct) (hs : ∀ x, x < fr + ct → E' x = E x) : Coh E' fr ct k G := by
 have hha := h.o.ok.ha
 refine ⟨h.o.same (hs _ (by omega)) (hs _ (by omega)) (fun i hi => sec_same hc hs hha hi) h.at' h.sz, fun i h1 h2 => ?_, fun b hb i hi => ?_, h.bd, h.at'⟩
 ·rw [sec_same hc hs hha h2]; exact h.old i h1 h2
 ·rw [sec_same hc hs hb hi]; exact h.all b hb i hi
structure LitQ (g g' : Heap) (v : V) (l : List V) : Prop where
 n : g'.n = g.n + 1
 k : ∀ k, k < g.n → g'.get k = g.get k
 v : LR g' (fun b => b = g.n) v l
theorem LitQ.hS {g g' : Heap} {v : V} {l : List V} (hq : LitQ g g' v l) (hM : ∀ k, M k ∨ N k → k < g.n) : ∀ k, k = g.n → k < g'.n ∧ ¬ M k ∧ ¬ N k := fun k hk => by
 have := hq.n
 exact ⟨by omega, fun h => by have := hM k (.inl h); omega, fun h => by have := hM k (.inr h); omega⟩
theorem lit1 (h : Heap) (a : Int) : selfV Try.prog 22 (.slice (some (h.n, 0)) 1 1 true) (h.push (.cells (Blk.of [.int .u8 a]) 5)) = some ⟨.slice (some (h.n, 0)) 1 1 true, (h.push (.cells (Blk.of [.int .u8 a]) 5)).set h.n (.cells (Blk.of [.int .u8 a]) 5), [], [h.n]⟩ := by
 unfold selfV
 simp only [Try.underlying22, Try.underlying5]
 rw [qH rfl]
 rfl
theorem lit2 (h : Heap) (a b : Int) : selfV Try.prog 22 (.slice (some (h.n, 0)) 2 2 true) (h.push (.cells (Blk.of [.int .u8 a, .int .u8 b]) 5)) = some ⟨.slice (some (h.n, 0)) 2 2 true, (h.push (.cells (Blk.of [.int .u8 a, .int .u8 b]) 5)).set h.n (.cells (Blk.of [.int .u8 a, .int .u8 b]) 5), [], [h.n]⟩ := by
 unfold selfV
 simp only [Try.underlying22, Try.underlying5]
 rw [qH rfl]
 rfl
theorem lit_q (g : Heap) (l : List V) (hl : l ≠ []) : ∃ g', (g.push (.cells (Blk.of l) 5)).set g.n (.cells (Blk.of l) 5) = g' ∧ LitQ g g' (.slice (some (g.n, 0)) l.length l.length true) l :=
 ⟨_, rfl, by simp, fun k hk => by rw [qB (by simp only [Heap.qG]; omega) (by omega), qC (by omega)], .inr ⟨g.n, 0, l.length, true, _, 5, rfl, rfl, qF (by simp only [Heap.qG]; omega) rfl _, by rw [jB]; omega, xK _ rfl⟩⟩
theorem rep_q (g : Heap) (m : Nat) : ∃ g', g.push (.cells (Blk.rep m [.int .u8 0]) 5) = g' ∧ LitQ g g' (.slice (some (g.n, 0)) m m true) (zB m) :=
 ⟨_, rfl, by simp, fun k hk => qC (by omega) _, .inr ⟨g.n, 0, m, true, _, 5, by rw [zB_len], rfl, qH rfl _, by rw [zB_len]; exact Nat.le_of_eq (Nat.zero_add m), by
  rw [zB_len]
  refine List.ext_getElem? fun i => ?_
  by_cases hi : i < m
  ·rw [Blk.qM _ _ _ _ hi, rep_get, show (0 + i) % [V.int .u8 0].length = 0 from Nat.mod_one _]
   unfold zB
   rw [List.getElem?_replicate, if_pos hi]; rfl
  ·rw [List.getElem?_eq_none (by rw [Blk.qJ]; omega), List.getElem?_eq_none (by rw [zB_len]; omega)]⟩⟩
set_option maxHeartbeats 16000000 in
theorem known_c (hR : ∀ b, R b) : SF ⟨Try.prog, true⟩ 7 [] h R W fun r _ => r = .bool true := by
 have hR' : ∀ b, h.n ≤ b ∨ R b := fun b => .inr (hR b)
 have hW' : ∀ b, h.n ≤ b → h.n ≤ b ∨ W b := fun b => .inl
 refine SF.go hm Try.func7 ir7_eq ?_
 simp -implicitDefEqProofs (disch := omega) only [go_sem, seval, ↓reduceIte, ir7]
 refine qK.of (new_dk (n := 32) ⟨by omega, by omega⟩).any ?_
 rintro r g1 ⟨M1, bd, rfl, hx1, hM1, n1, k1⟩
 rw [show (32 : Int).toNat = 32 from rfl] at hx1
 simp -implicitDefEqProofs (disch := omega) only [go_sem, seval, ↓reduceIte, reduceCtorEq]
 refine qK.of (open_log (f := 0) (k := 32) hx1 (by omega) (by omega) ((few_new 32).lt (by omega)) hR' fun k hk => .inl (hM1 k hk)) ?_
 rintro r g2 hq
 have ho : okO (DS.new 32) 0 32 := by unfold okO; exact ⟨by decide, by decide, by decide, by decide⟩
 have hb0 : BlankS (DS.new 32) 0 32 := blank_new 32 0 32
 unfold OpenQ at hq
 rw [if_pos ho, show (0 : Int).toNat = 0 from rfl, show (32 : Int).toNat = 32 from rfl, open_blank hb0 (by omega)] at hq
 obtain ⟨lp, hlp, rfl, hq⟩ := hq
 have hcoh1 : Coh (layD (DS.new 32) 0 32 H1).seen 0 32 1 G1 := coh_new hb0 (by omega)
 have f2 : Few (layD (DS.new 32) 0 32 H1) 1 := few_lay (few_new 32)
 obtain ⟨D1, eD1⟩ : ∃ D1, D1 = layD (DS.new 32) 0 32 H1 := ⟨_, rfl⟩
 have d1 : D1.n = 32 := by rw [eD1]; rfl
 rw [← eD1] at hq hcoh1 f2
 obtain ⟨n2, k2, M2, N2, hx2, hl2, hM2, hN2, hd2⟩ := hq
 have hp2 : Pg g2 h.n M2 N2 bd lp 0 32 D1 G1 := ⟨hx2, hl2, hd2, fun k hk => hk.elim (fun h => (hM2 k h).elim (hM1 k) fun h => by omega) fun h => (hN2 k h).elim (fun h => h.elim) fun h => by omega⟩
 simp -implicitDefEqProofs (disch := omega) only [go_sem, seval, ↓reduceIte, reduceCtorEq]
 refine qK.of (open_log (f := 0) (k := 15) hp2.x (by omega) (by omega) (f2.lt (by omega)) hR' fun k hk => .inl (hp2.lo k (.inl hk))) ?_
 rintro r g3 hq
 have ho : ¬ okO D1 0 15 := by unfold okO; omega
 unfold OpenQ at hq
 rw [if_neg ho] at hq
 obtain ⟨rfl, n3, k3⟩ := hq
 have hp3 : Pg g3 h.n M2 N2 bd lp 0 32 D1 G1 := hp2.old n3 fun k _ h => k3 k h
 simp -implicitDefEqProofs (disch := omega) only [go_sem, seval, ↓reduceIte, reduceCtorEq]
 refine qK.of (epoch_ok hp3.l hR' (by decide)).any ?_
 rintro r g3' ⟨rfl, rfl⟩
 have t1 : ((G1.H.ep : Nat) : Int) = 1 := rfl
 simp -implicitDefEqProofs (disch := omega) only [go_sem, seval, ↓reduceIte, reduceCtorEq, t1]
 refine qK.of (last_ok hp3.l hR' (by decide)).any ?_
 rintro r g3' ⟨rfl, rfl⟩
 have t2 : ((G1.nx : Nat) : Int) - 1 = 0 := rfl
 simp -implicitDefEqProofs (disch := omega) only [go_sem, seval, ↓reduceIte, reduceCtorEq, t2]
 refine qK.of (room_ok hp3.l (by omega) (by omega) hR' (by decide)).any ?_
 rintro r g4 ⟨rfl, n4, k4⟩
 have hp4 : Pg g4 h.n M2 N2 bd lp 0 32 D1 G1 := hp3.old n4 fun k _ h => k4 k h
 have t3 : (((32 - 2) / 2 : Nat) : Int) - (G1.at' : Int) = 15 := rfl
 have hl4 := lit1 g4 97
 have hg4 : h.n ≤ g4.n := by omega
 simp -implicitDefEqProofs (disch := omega) only [go_sem, seval, ↓reduceIte, reduceCtorEq, ↓cvS22, hl4, hg4]
 obtain ⟨g5, e5, q5⟩ := lit_q g4 [.int .u8 97] (by simp)
 rw [e5]
 have hp5 : Pg g5 h.n M2 N2 bd lp 0 32 D1 G1 := hp4.old (by rw [q5.n]; omega) fun k _ h => q5.k k h
 have n5 := q5.n
 refine qK.of (app_pg hp5 (by omega) hcoh1 (by omega) f2 (by omega) (by rw [d1]; omega) hR' hW' q5.v (q5.hS hp4.lt) (Nat.le_refl _) (Byt.cons ⟨97, rfl, by decide, by decide⟩ Byt.nil) (by decide) (by decide) (by decide)) ?_
 rintro r g6 ⟨rfl, hq⟩
 have c2 := hcoh1.app (l := [.int .u8 97]) (by omega) (by decide) (by decide)
 have f3 : Few (appW D1 0 32 G1 [.int .u8 97] 1 1) _ := few_app f2 1
 have p1 : (kF ([.int .u8 97] : List V).length).1 = 1 := rfl
 rw [p1] at c2 hq
 obtain ⟨D3, eD3⟩ : ∃ D3, D3 = appW D1 0 32 G1 [.int .u8 97] 1 1 := ⟨_, rfl⟩
 have d3 : D3.n = 32 := by rw [eD3]; exact (appW_n _ _ _ _ _ _ _).trans d1
 rw [← eD3] at hq c2 f3
 obtain ⟨G3, eG3⟩ : ∃ G3 : LgS, G3 = { G1 with at' := G1.at' + 1, nx := G1.nx + 1, rs := G1.rs ++ [[.int .u8 97]] } := ⟨_, rfl⟩
 rw [← eG3] at hq c2
 have nx3 : G3.nx = 2 := by rw [eG3]; rfl
 have at3 : G3.at' = 1 := by rw [eG3]; rfl
 have rs3 : G3.rs.length = 1 := by rw [eG3]; rfl
 obtain ⟨⟨n6, k6⟩, M6, N6, hp6, hs6⟩ := hp5.two (by omega) hq
 simp -implicitDefEqProofs (disch := omega) only [go_sem, seval, ↓reduceIte, reduceCtorEq]
 obtain ⟨g7, e7, q7⟩ := rep_q g6 200
 rw [e7]
 have hp7 : Pg g7 h.n M6 N6 bd lp 0 32 D3 G3 := hp6.old (by rw [q7.n]; omega) fun k _ h => q7.k k h
 have n7 := q7.n
 have z2 : (zB 200).length = 200 := zB_len 200
 have p2 : (kF (zB 200).length).1 = 2 := by rw [z2]; rfl
 refine qK.of (app_pg hp7 (by omega) c2 (by omega) f3 (by omega) (by rw [d3]; omega) hR' hW' q7.v (q7.hS hp6.lt) (Nat.le_refl _) (byt_zB _) (by rw [z2]; decide) (by rw [p2, at3]; decide) (by omega)) ?_
 rintro r g8 ⟨rfl, hq⟩
 have c4 := c2.app (l := zB 200) (by omega) (by rw [z2]; decide) (by rw [p2, at3]; decide)
 have f4 : Few (appW D3 0 32 G3 (zB 200) 2 2) _ := few_app f3 2
 rw [p2] at c4 hq
 obtain ⟨D4, eD4⟩ : ∃ D4, D4 = appW D3 0 32 G3 (zB 200) 2 2 := ⟨_, rfl⟩
 have d4 : D4.n = 32 := by rw [eD4]; exact (appW_n _ _ _ _ _ _ _).trans d3
 rw [← eD4] at hq c4 f4
 obtain ⟨G4, eG4⟩ : ∃ G4 : LgS, G4 = { G3 with at' := G3.at' + 2, nx := G3.nx + 1, rs := G3.rs ++ [zB 200] } := ⟨_, rfl⟩
 rw [← eG4] at hq c4
 have nx4 : G4.nx = 3 := by rw [eG4]; show G3.nx + 1 = 3; omega
 have at4 : G4.at' = 3 := by rw [eG4]; show G3.at' + 2 = 3; omega
 have rs4 : G4.rs.length = 2 := by rw [eG4]; show (G3.rs ++ [zB 200]).length = 2; rw [List.length_append, rs3]; rfl
 have sy4 : G4.sy = 0 := by rw [eG4]; show G3.sy = 0; rw [eG3]; rfl
 have ep4 : G4.H.ep = 1 := by rw [eG4]; show G3.H.ep = 1; rw [eG3]; rfl
 obtain ⟨⟨n8, k8⟩, M8, N8, hp8, hs8⟩ := hp7.two (by omega) hq
 have t4 : (G1.nx : Int) = 1 := rfl
 have t5 : (G3.nx : Int) = 2 := by rw [nx3]; rfl
 simp -implicitDefEqProofs (disch := omega) only [go_sem, seval, ↓reduceIte, reduceCtorEq, t4, t5]
 refine qK.of (room_ok hp8.l (by omega) (by omega) hR' (by omega)).any ?_
 rintro r g9 ⟨rfl, n9, k9⟩
 have hp9 : Pg g9 h.n M8 N8 bd lp 0 32 D4 G4 := hp8.old n9 fun k _ h => k9 k h
 have t6 : (((32 - 2) / 2 : Nat) : Int) - (G4.at' : Int) = 12 := by rw [at4]; rfl
 simp -implicitDefEqProofs (disch := omega) only [go_sem, seval, ↓reduceIte, reduceCtorEq]
 refine qK.of (synced_ok hp9.l hR' (by omega)).any ?_
 rintro r g9' ⟨rfl, rfl⟩
 have t7 : (G4.sy : Int) = 0 := by rw [sy4]; rfl
 simp -implicitDefEqProofs (disch := omega) only [go_sem, seval, ↓reduceIte, reduceCtorEq, t7]
 refine qK.of (sync_ok hp9.x hp9.l hp9.ne (by rw [d4]; omega) hR' (fun k hk => hW' k (hp9.lo k (.inl hk))) (hW' lp (hp9.lo lp (.inr hp9.l.l))) ⟨by omega, by omega⟩).any ?_
 rintro r g10 ⟨rfl, hq⟩
 obtain ⟨⟨n10, k10⟩, M10, N10, hp10, hs10⟩ := hp9.two (by omega) hq
 obtain ⟨D5, eD5⟩ : ∃ D5, D5 = D4.flush 0 32 := ⟨_, rfl⟩
 have s5 : D5.seen = D4.seen := funext fun x => by rw [eD5, seen_flush]
 have d5 : D5.n = 32 := by rw [eD5]; exact d4
 have f5 : Few D5 (1 + 1 + 2) := by rw [eD5]; exact f4.flush
 have fl5 : ∀ s, s < 32 → D5.fl s = D4.seen s := fun s hs => by
  rw [eD5]
  show (if 0 ≤ s ∧ s < 0 + 32 then D4.seen s else D4.fl s) = _
  rw [if_pos (by omega)]
 have c5 : Coh D5.seen 0 32 (1 + 1 + 1) { G4 with sy := G4.nx - 1 } := by rw [s5]; exact c4.sy _
 rw [← eD5] at hp10
 obtain ⟨G5, eG5⟩ : ∃ G5 : LgS, G5 = { G4 with sy := G4.nx - 1 } := ⟨_, rfl⟩
 rw [← eG5] at hp10 c5
 have nx5 : G5.nx = 3 := by rw [eG5]; exact nx4
 have at5 : G5.at' = 3 := by rw [eG5]; exact at4
 have rs5 : G5.rs.length = 2 := by rw [eG5]; exact rs4
 have sy5 : G5.sy = 2 := by rw [eG5]; show G4.nx - 1 = 2; omega
 have ep5 : G5.H.ep = 1 := by rw [eG5]; exact ep4
 simp -implicitDefEqProofs (disch := omega) only [go_sem, seval, ↓reduceIte, reduceCtorEq]
 refine qK.of (synced_ok hp10.l hR' (by omega)).any ?_
 rintro r g10' ⟨rfl, rfl⟩
 have t8 : (G5.sy : Int) = 2 := by rw [sy5]; rfl
 have hl10 := lit1 g10' 98
 have hg10 : h.n ≤ g10'.n := by omega
 simp -implicitDefEqProofs (disch := omega) only [go_sem, seval, ↓reduceIte, reduceCtorEq, t8, ↓cvS22, hl10, hg10]
 obtain ⟨g11, e11, q11⟩ := lit_q g10' [.int .u8 98] (by simp)
 rw [e11]
 have hp11 : Pg g11 h.n M10 N10 bd lp 0 32 D5 G5 := hp10.old (by rw [q11.n]; omega) fun k _ h => q11.k k h
 have n11 := q11.n
 refine qK.of (app_pg hp11 (by omega) c5 (by omega) f5 (by omega) (by rw [d5]; omega) hR' hW' q11.v (q11.hS hp10.lt) (Nat.le_refl _) (Byt.cons ⟨98, rfl, by decide, by decide⟩ Byt.nil) (by decide) (by rw [at5]; decide) (by omega)) ?_
 rintro r g12 ⟨rfl, hq⟩
 have p6 : (kF ([.int .u8 98] : List V).length).1 = 1 := rfl
 rw [p6] at hq
 obtain ⟨D6, eD6⟩ : ∃ D6, D6 = appW D5 0 32 G5 [.int .u8 98] 1 1 := ⟨_, rfl⟩
 have d6 : D6.n = 32 := by rw [eD6]; exact (appW_n _ _ _ _ _ _ _).trans d5
 have fl6 : D6.fl = D5.fl := by rw [eD6]; rfl
 rw [← eD6] at hq
 obtain ⟨⟨n12, k12⟩, M12, N12, hp12, hs12⟩ := hp11.two (by omega) hq
 have t9 : (G5.nx : Int) = 3 := by rw [nx5]; rfl
 simp -implicitDefEqProofs (disch := omega) only [go_sem, seval, ↓reduceIte, reduceCtorEq, t9]
 refine qK.of (crash_dk (m := 0) (ks := fun _ => 0) (kw := fun _ => 0) (f := D6.fl) (S := fun _ => False) hp12.x hR' ⟨by omega, .inl ⟨rfl, .inl rfl⟩⟩ rfl).any ?_
 rintro r g13 ⟨M13, bd', rfl, hx13, hM13, n13, k13⟩
 obtain ⟨D7, eD7⟩ : ∃ D7, D7 = D6.crashed D6.fl := ⟨_, rfl⟩
 have d7 : D7.n = 32 := by rw [eD7]; exact d6
 have s7 : ∀ x, x < 0 + 32 → D7.seen x = D5.seen x := fun x hx => by
  rw [eD7, seen_crash, fl6, fl5 x (by omega), s5]
 have f7 : Few D7 0 := by rw [eD7]; exact fun s => Nat.le_refl _
 rw [← eD7] at hx13
 have c7 : Coh D7.seen 0 32 (1 + 1 + 1) G5 := c5.same (by omega) s7
 simp -implicitDefEqProofs (disch := omega) only [go_sem, seval, ↓reduceIte, reduceCtorEq]
 refine qK.of (open_log (f := 0) (k := 32) hx13 (by omega) (by omega) (f7.lt (by omega)) hR' fun k hk => .inl (by have := hM13 k hk; omega)) ?_
 rintro r g14 hq
 have ho7 : okO D7 0 32 := by unfold okO; omega
 unfold OpenQ at hq
 rw [if_pos ho7, show (0 : Int).toNat = 0 from rfl, show (32 : Int).toNat = 32 from rfl, c7.o.opens] at hq
 obtain ⟨lq, hlq, rfl, n14, k14, M14, N14, hx14, hl14, hM14, hN14, hd14⟩ := hq
 have c8 := c7.re (by omega)
 have f8 : Few (layD D7 0 32 (upH G5.H)) 1 := few_lay f7
 obtain ⟨D8, eD8⟩ : ∃ D8, D8 = layD D7 0 32 (upH G5.H) := ⟨_, rfl⟩
 have d8 : D8.n = 32 := by rw [eD8]; exact d7
 rw [← eD8] at c8 f8 hx14
 obtain ⟨G8, eG8⟩ : ∃ G8, G8 = reG G5 := ⟨_, rfl⟩
 rw [← eG8] at c8 hl14
 have nx8 : G8.nx = 3 := by rw [eG8]; exact nx5
 have ep8 : G8.H.ep = 2 := by rw [eG8]; show G5.H.ep + 1 = 2; omega
 have hp14 : Pg g14 h.n M14 N14 bd' lq 0 32 D8 G8 := ⟨hx14, hl14, hd14, fun k hk => hk.elim (fun h => (hM14 k h).elim (fun h => by have := hM13 k h; omega) fun h => by omega) fun h => (hN14 k h).elim (fun h => h.elim) fun h => by omega⟩
 simp -implicitDefEqProofs (disch := omega) only [go_sem, seval, ↓reduceIte, reduceCtorEq]
 refine qK.of (last_ok hp14.l hR' (by omega)).any ?_
 rintro r g14' ⟨rfl, rfl⟩
 have t10 : (G8.nx : Int) - 1 = 2 := by rw [nx8]; rfl
 simp -implicitDefEqProofs (disch := omega) only [go_sem, seval, ↓reduceIte, reduceCtorEq, t10]
 refine qK.of (epoch_ok hp14.l hR' (by omega)).any ?_
 rintro r g14'' ⟨rfl, rfl⟩
 have t11 : (G8.H.ep : Int) = 2 := by rw [ep8]; rfl
 have hl14' := lit2 g14'' 120 121
 have hg14 : h.n ≤ g14''.n := by omega
 simp -implicitDefEqProofs (disch := omega) only [go_sem, seval, ↓reduceIte, reduceCtorEq, t11, ↓cvS22, hl14', hg14]
 obtain ⟨g15, e15, q15⟩ := lit_q g14'' [.int .u8 120, .int .u8 121] (by simp)
 rw [e15]
 have hp15 : Pg g15 h.n M14 N14 bd' lq 0 32 D8 G8 := hp14.old (by rw [q15.n]; omega) fun k _ h => q15.k k h
 have n15 := q15.n
 have hbxy : Byt [.int .u8 120, .int .u8 121] := Byt.cons ⟨120, rfl, by decide, by decide⟩ (Byt.cons ⟨121, rfl, by decide, by decide⟩ Byt.nil)
 have hnx8 := c8.o.nx
 refine qK.of (checkpoint_ok hp15.x hp15.l hp15.ne (by rw [d8]; omega) hR' (fun k hk => hW' k (hp15.lo k hk)) q15.v (fun k hk => by omega) hbxy (by decide) c8.o.ok.ha ⟨by omega, by omega, hnx8⟩ (f8.lt' (by omega))) ?_
 rintro r g16 hq
 unfold CkQ at hq
 rw [if_neg (by decide), c8.ckG (by omega) (by omega) (by decide)] at hq
 obtain ⟨rfl, hq⟩ := hq
 obtain ⟨⟨n16, k16⟩, M16, N16, hp16, hs16⟩ := hp15.two (by omega) hq
 obtain ⟨D9, eD9⟩ : ∃ D9, D9 = ckD D8 0 32 G8 [.int .u8 120, .int .u8 121] := ⟨_, rfl⟩
 obtain ⟨G9, eG9⟩ : ∃ G9, G9 = ckR G8 [.int .u8 120, .int .u8 121] (G8.nx - 1) := ⟨_, rfl⟩
 rw [← eD9, ← eG9] at hp16
 have nx9 : G9.nx = 3 := by rw [eG9]; exact nx8
 have ep9 : G9.H.ep = 3 := by rw [eG9]; show G8.H.ep + 1 = 3; omega
 have at9 : G9.at' = 1 := by rw [eG9]; rfl
 have sn9 : G9.sn = [.int .u8 120, .int .u8 121] := by rw [eG9]; rfl
 simp -implicitDefEqProofs (disch := omega) only [go_sem, seval, ↓reduceIte, reduceCtorEq]
 refine qK.of (room_ok hp16.l (by omega) (by omega) hR' (by omega)).any ?_
 rintro r g17 ⟨rfl, n17, k17⟩
 have hp17 : Pg g17 h.n M16 N16 bd' lq 0 32 D9 G9 := hp16.old n17 fun k _ h => k17 k h
 have t12 : (((32 - 2) / 2 : Nat) : Int) - (G9.at' : Int) = 14 := by rw [at9]; rfl
 simp -implicitDefEqProofs (disch := omega) only [go_sem, seval, ↓reduceIte, reduceCtorEq]
 refine qK.of (epoch_ok hp17.l hR' (by omega)).any ?_
 rintro r g17' ⟨rfl, rfl⟩
 have t13 : (G9.H.ep : Int) = 3 := by rw [ep9]; rfl
 simp -implicitDefEqProofs (disch := omega) only [go_sem, seval, ↓reduceIte, reduceCtorEq, t13]
 refine qK.of (last_ok hp17.l hR' (by omega)).any ?_
 rintro r g17'' ⟨rfl, rfl⟩
 have t14 : (G9.nx : Int) - 1 = 2 := by rw [nx9]; rfl
 simp -implicitDefEqProofs (disch := omega) only [go_sem, seval, ↓reduceIte, reduceCtorEq, t14]
 refine qK.of (snapshot_ok hp17.l hR' (by rw [sn9]; exact hbxy) (by rw [sn9]; decide)).any ?_
 rintro r g18 ⟨o18, k18⟩
 rw [sn9] at o18
 obtain ⟨r1, v1⟩ := conv_lr o18.lr hbxy
 have q1 : allB (fun b => h.n ≤ b ∨ R b) r1 := qO fun b _ => hR' b
 simp -implicitDefEqProofs (disch := omega) only [go_sem, seval, ↓reduceIte, reduceCtorEq, ↓cvS, v1, q1, sb_eql]
 exact congrArg V.bool (decide_eq_true rfl)
end Go.Proofs.Ytakgjjbmniilhaa
set_option maxRecDepth 100000
set_option linter.unusedVariables false
namespace Go.Proofs.Ytakgjjbmniilhaa
open Go Go.Vm
attribute [-go_sem] qQ
variable {h g : Heap} {R W M N N' : Set'} {bd lp rd rp fr ct : Nat} {D : DS} {G : LgS}
theorem few_ofB (l : List V) (n : Nat) : Few (DS.ofB l n) 0 := fun s => Nat.le_refl _
set_option maxHeartbeats 16000000 in
theorem any_law {v0 v1 : V} {l0 l1 : List V} (hkn : ∀ (h : Heap) (R W : Set'), (∀ b, R b) → SF ⟨Try.prog, true⟩ 7 [] h R W fun r _ => r = .bool true) (hv0 : LR h (fun b => b < h.n) v0 l0) (hb0 : Byt l0) (hl0 : l0.length ≤ 9223372036854775807) (hv1 : LR h (fun b => b < h.n) v1 l1) (hc1 : xU v1) (hb1 : Byt l1) (hl1 : l1.length ≤ 9223372036854775807) (hR : ∀ b, R b) :
  SF ⟨Try.prog, true⟩ 5 [v0, v1] h R W fun r _ => r = .bool true := by
 have hR' : ∀ b, h.n ≤ b ∨ R b := fun b => .inr (hR b)
 have hlen0 := hv0.lenV Try.underlying22
 have hlen1 := hv1.lenV Try.underlying22
 refine SF.go hm Try.func5 ir5_eq ?_
 by_cases h5 : 5120 < l0.length
 ·have i5 : (5120 : Int) < (l0.length : Int) := by omega
  simp -implicitDefEqProofs (disch := omega) only [go_sem, seval, ↓reduceIte, reduceCtorEq, ir5, qE, ↓hlen0, i5]
  refine qK.of (hkn _ _ _ hR') ?_
  rintro r g rfl
  simp -implicitDefEqProofs (disch := omega) only [go_sem, seval, ↓reduceIte, reduceCtorEq]
 have i5 : ¬ (5120 : Int) < (l0.length : Int) := by omega
 by_cases h6 : 500 < l1.length
 ·have i6 : (500 : Int) < (l1.length : Int) := by omega
  simp -implicitDefEqProofs (disch := omega) only [go_sem, seval, ↓reduceIte, reduceCtorEq, ir5, ↓hlen0, ↓hlen1, i5, i6]
  refine qK.of (hkn _ _ _ hR') ?_
  rintro r g rfl
  simp -implicitDefEqProofs (disch := omega) only [go_sem, seval, ↓reduceIte, reduceCtorEq]
 have i6 : ¬ (500 : Int) < (l1.length : Int) := by omega
 obtain ⟨va, g1, ra, wa, hap, oa, n1, k1, hwa⟩ := appL (Own.nil h.n h 5) (Nat.le_refl _) hv0 hb0 (by simp; omega)
 rw [List.nil_append] at oa
 have e1 : (5120 : Int) - (l0.length : Int) = ((5120 - l0.length : Nat) : Int) := by omega
 obtain ⟨vb, g2, rb, wb, hbp, ob, n2, k2, hwb⟩ := app_zero (k := 5120 - l0.length) oa n1 (by omega) (by omega)
 have hvo := hv0.one
 have q1 : allB (fun b => h.n ≤ b ∨ R b) ra := qO fun b _ => hR' b
 have q2 : allB (fun b => h.n ≤ b ∨ W b) wa := qO fun b hb => .inl (hwa b hb)
 have q3 : allB (fun b => h.n ≤ b ∨ R b) rb := qO fun b _ => hR' b
 have q4 : allB (fun b => h.n ≤ b ∨ W b) wb := qO fun b hb => .inl (hwb b hb)
 simp -implicitDefEqProofs (disch := omega) only [go_sem, seval, ↓reduceIte, reduceCtorEq, ir5, ↓hlen0, ↓hlen1, i5, i6, qU jO, hap, q1, q2, e1, hbp, q3, q4]
 obtain ⟨l, el⟩ : ∃ l, l = l0 ++ List.replicate (5120 - l0.length) (V.int .u8 0) := ⟨_, rfl⟩
 rw [← el] at ob
 have hll : l.length = 40 * 128 := by rw [el, List.length_append, List.length_replicate]; omega
 have hby : Byt l := by
  rw [el]
  exact hb0.app fun x hx => ⟨0, (List.mem_replicate.1 hx).2, by omega, by omega⟩
 clear el hbp
 have hvb := Own.lrc ob
 refine qK.of (SF.any (M := ⟨Try.prog, true⟩) (SF.foot (of_ok (R := qR) (W := noW) (n := 40) hvb.1 hvb.2 hby hll ⟨by omega, by omega⟩ (fun _ => trivial)).kept (fun b _ => hR' b) (fun _ h => h.elim))) ?_
 rintro r g3 ⟨⟨L, rfl, hfb, hmb, hd3, k3⟩, vf3⟩
 have n3 := vf3.n
 have hx3 : DkX g3 (zZ (g2.n + 2) L (DS.ofB l 40)) (g2.n + 2) (DS.ofB l 40) := DkX.mk' hd3
 have hM3 : ∀ k, zZ (g2.n + 2) L (DS.ofB l 40) k → g2.n ≤ k := fun k hk => by
  rcases hk with rfl | rfl | rfl | ⟨x, hx, _⟩
  ·omega
  ·exact hfb
  ·exact hmb
  ·exact absurd rfl hx
 generalize zZ (g2.n + 2) L (DS.ofB l 40) = M3 at hx3 hM3
 generalize g2.n + 2 = bd at hx3
 have hvb3 := hvb.old k3
 simp -implicitDefEqProofs (disch := omega) only [go_sem, seval, ↓reduceIte, reduceCtorEq]
 refine qK.of (SF.any (M := ⟨Try.prog, true⟩) (SF.foot (rof_ok (R := qR) (W := noW) (n := 40) hvb3.1 hvb3.2 hby hll ⟨by omega, by omega⟩ (fun _ => trivial)).kept (fun b _ => hR' b) (fun _ h => h.elim))) ?_
 rintro r g4 ⟨⟨rfl, ⟨sb, hf4⟩, k4⟩, vf4⟩
 have n4 := vf4.n
 have hD : (DS.ofB l 40).n = 40 := rfl
 obtain ⟨fb, pb, hr4⟩ := hf4.refx ⟨by omega, by omega⟩ fun s hs => fillF_sec hby hll (Nat.le_refl _) s
 have hy4 : RkX g4 (fun b => g3.n ≤ b ∧ b < g4.n) (g3.n + 1) (DS.ofB l 40) := ⟨⟨fb, pb, hr4⟩, fun k hk => hk.2⟩
 generalize g3.n + 1 = rd at hy4
 have hx4 : DkX g4 M3 bd (DS.ofB l 40) := hx3.old n4 k4
 have f0 := few_ofB l 40
 generalize DS.ofB l 40 = D at hx3 hx4 hy4 hD f0 hd3
 clear hd3 hr4 hf4 hvb3
 have ho : okO D 0 40 := by unfold okO; rw [hD]; omega
 simp -implicitDefEqProofs (disch := omega) only [go_sem, seval, ↓reduceIte, reduceCtorEq]
 refine qK.of (open_log (f := 0) (k := 40) hx4 (by omega) (by omega) (f0.lt (by omega)) hR' fun k hk => .inl (by have := hM3 k hk; omega)) ?_
 rintro r g5 hq
 unfold OpenQ at hq
 rw [if_pos ho, show (0 : Int).toNat = 0 from rfl, show (40 : Int).toNat = 40 from rfl] at hq
 cases hA : openA D 0 40 with
 | none =>
  rw [hA] at hq
  obtain ⟨rfl, n5, k5⟩ := hq
  simp -implicitDefEqProofs (disch := omega) only [go_sem, seval, ↓reduceIte, reduceCtorEq]
  refine qK.of (SF.any (M := ⟨Try.prog, true⟩) (rgopen_ok (f := 0) (k := 40) (hy4.old n5 k5) (by omega) (by omega) (f0.lt (by omega)) hR' fun k hk => .inl (by have := hk.1; omega))) ?_
  rintro r g6 hq
  unfold ROpenQ at hq
  rw [if_pos ho, show (0 : Int).toNat = 0 from rfl, show (40 : Int).toNat = 40 from rfl, hA] at hq
  obtain ⟨rfl, n6, k6⟩ := hq
  simp -implicitDefEqProofs (disch := omega) only [go_sem, seval, ↓reduceIte, reduceCtorEq, Option.isNone_none]
  refine qK.of (hkn _ _ _ hR') ?_
  rintro r g rfl
  simp -implicitDefEqProofs (disch := omega) only [go_sem, seval, ↓reduceIte, reduceCtorEq]
 | some o =>
  obtain ⟨D', G⟩ := o
  rw [hA] at hq
  obtain ⟨lp, hlp, rfl, n5, k5, M5, N5', hx5, hl5, hM5, hN5, hd5⟩ := hq
  simp -implicitDefEqProofs (disch := omega) only [go_sem, seval, ↓reduceIte, reduceCtorEq]
  have hy5 : RkX g5 (fun b => g3.n ≤ b ∧ b < g4.n) rd D := hy4.same n5 fun k hk => k5 k hk.2 (fun h => by have := hx3.lt k h; omega) id
  refine qK.of (SF.any (M := ⟨Try.prog, true⟩) (rgopen_ok (f := 0) (k := 40) hy5 (by omega) (by omega) (f0.lt (by omega)) hR' fun k hk => .inl (by have := hk.1; omega))) ?_
  rintro r g6 hq
  unfold ROpenQ at hq
  rw [if_pos ho, show (0 : Int).toNat = 0 from rfl, show (40 : Int).toNat = 40 from rfl, hA] at hq
  obtain ⟨rp, hrp, rfl, n6, k6, M6, N6, hy6, hr6, hM6, hN6, hd6⟩ := hq
  simp -implicitDefEqProofs (disch := omega) only [go_sem, seval, ↓reduceIte, reduceCtorEq, qE]
  have hMr : ∀ k, M5 k ∨ N5' k → k < g5.n ∧ ¬ (g3.n ≤ k ∧ k < g4.n) ∧ h.n ≤ k := fun k hk => by
   rcases hk with h1 | h1
   ·have h2 := hx5.lt k h1
    rcases hM5 k h1 with h3 | h3
    ·have h4 := hx3.lt k h3
     have h5 := hM3 k h3
     exact ⟨h2, by omega, by omega⟩
    ·exact ⟨h2, by omega, by omega⟩
   ·have h2 := hl5.lt k h1
    rcases hN5 k h1 with h3 | h3
    ·exact h3.elim
    ·exact ⟨h2, by omega, by omega⟩
  have hDo : ∀ k, M6 k ∨ N6 k → (g3.n ≤ k ∧ k < g4.n) ∨ g5.n ≤ k := fun k hk => by
   rcases hk with h1 | h1
   ·exact hM6 k h1
   ·exact .inr ((hN6 k h1).elim (fun h => h.elim) id)
  have hs : ∀ s, s < D.n → (D.seen s).length = 128 ∧ Byt (D.seen s) := fun s hs => hx3.sec hs
  obtain ⟨hG, hD', hF⟩ := openA_in (fr := 0) (ct := 40) hs ⟨by omega, by omega⟩ (by omega) hA
  have B6 : Bth g6 h.n M5 N5' M6 N6 bd lp rd rp 0 40 D' G D' G := ⟨hx5.same n6 fun k hk => k6 k (hMr k (.inl hk)).1 (hMr k (.inl hk)).2.1 id, hl5.keep n6 fun k h1 hk => k6 k h1 (hMr k (.inr hk)).2.1 id, hy6, hr6, hd5, hd6, fun k h1 h2 => by
    have h3 := hMr k h1
    rcases hDo k h2 with h4 | h4
    ·exact h3.2.1 h4
    ·omega, fun k hk => by
    rcases hk with h1 | h1
    ·exact (hMr k h1).2.2
    ·rcases hDo k h1 with h4 | h4 <;> omega⟩
  have kh6 : ∀ k, k < h.n → g6.get k = h.get k := fun k hk => by
   rw [k6 k (by omega) (by omega) id, k5 k (by omega) (fun h1 => by have := hM3 k h1; omega) id, k4 k (by omega), k3 k (by omega), k2 k (by omega), k1 k hk]
  have h40 : (40 - 2) / 2 = 19 := rfl
  have hGa := hG.at'
  have hGn := hG.nx
  have hGe := hG.ep
  have hGr := hG.rl
  have hc6 : 16 ≤ 40 ∧ 0 + 40 ≤ D'.n := by omega
  have hn6 : h.n ≤ g6.n := by omega
  refine qK.of (SF.any (M := ⟨Try.prog, true⟩) (append_ok (S := fun k => k < h.n) B6.x B6.l B6.nm hc6 hR' (fun k hk => .inl (B6.lo k (.inl hk))) (hv1.old kh6) (fun k hk => ⟨by omega, fun h => by have := B6.lo k (.inl (.inl h)); omega, fun h => by have := B6.lo k (.inl (.inr h)); omega⟩) hc1 hb1 (by omega) hG.ha ⟨by omega, by omega⟩ hG.at' (by omega) ((hF 0 f0).lt (by omega)))) ?_
  rintro r g7 hq
  obtain ⟨rfl, hq7⟩ := hq.two B6.x B6.l B6.nm
  obtain ⟨M7, N7, B7, hM7, hN7⟩ := B6.prog hn6 hq7
  have hn7 : g6.n ≤ g7.n := hq7.n
  have kh7 : ∀ k, k < h.n → g7.get k = h.get k := fun k hk => by
   rw [hq7.k k (by omega) (fun h => by have := B6.lo k (.inl (.inl h)); omega) fun h => by have := B6.lo k (.inl (.inr h)); omega, kh6 k hk]
  simp -implicitDefEqProofs (disch := omega) only [go_sem, seval, ↓reduceIte, reduceCtorEq]
  refine qK.of (SF.any (M := ⟨Try.prog, true⟩) (rappend_ok (S := fun k => k < h.n) B7.y B7.r B7.nm' hc6 hR' (fun k hk => .inl (B7.lo k (.inr hk))) (hv1.old kh7) (fun k hk => ⟨by omega, fun h => by have := B7.lo k (.inr (.inl h)); omega, fun h => by have := B7.lo k (.inr (.inr h)); omega⟩) hc1 hb1 (by omega) hG.ha ⟨by omega, by omega⟩ hG.at' (by omega) ((hF 0 f0).lt (by omega)))) ?_
  rintro r g8 hq
  obtain ⟨rfl, hq8⟩ := hq.two B7.y B7.r B7.nm'
  obtain ⟨M8, N8, B8, hM8, hN8⟩ := B7.doc (by omega) hq8
  have hn8 : g7.n ≤ g8.n := hq8.n
  have hG8 : GIn 40 2 (appG 40 G l1) := appG_in hG ⟨hb1, by omega⟩
  simp -implicitDefEqProofs (disch := omega) only [go_sem, seval, ↓reduceIte, reduceCtorEq]
  refine qK.of (stands_ok (leave := 2) B8.l B8.r (hG8.ok (by omega) (by omega)) ⟨by omega, by omega, by omega⟩ hR') ?_
  rintro r g9 ⟨rfl, n9, k9⟩
  simp -implicitDefEqProofs (disch := omega) only [go_sem, seval, ↓reduceIte, reduceCtorEq]
  refine qK.of (SF.any (M := ⟨Try.prog, true⟩) (same_ok (B8.x.old n9 k9) (B8.y.old n9 k9) hR')) ?_
  rintro r g10 ⟨rfl, n10, k10⟩
  simp -implicitDefEqProofs (disch := omega) only [go_sem, seval, ↓reduceIte, reduceCtorEq]
  refine qK.of (hkn _ _ _ hR') ?_
  rintro r g rfl
  simp -implicitDefEqProofs (disch := omega) only [go_sem, seval, ↓reduceIte, reduceCtorEq]
end Go.Proofs.Ytakgjjbmniilhaa
