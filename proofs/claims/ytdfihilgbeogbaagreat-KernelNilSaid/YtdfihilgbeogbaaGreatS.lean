/- slices.Sorted of a map's keys: the keys collected, whatever order the map hands them out in. -/
import Derived.Test.YtdfihilgbeogbaaGreatTy
import Derived.Test.YtdfihilgbeogbaaGreatIr
import Derived.Test.YtdfihilgbeogbaaGreatV4
set_option linter.unusedVariables false
set_option linter.unusedSimpArgs false
set_option linter.unusedSimpArgs false
set_option maxRecDepth 100000
set_option linter.unusedVariables false
set_option linter.unusedSimpArgs false
namespace Go.Proofs.YtdfihilgbeogbaaGreat
open Go Go.Vm

theorem ap_keys (s x : V) (h : Heap) : appendV Tryz.prog 87 87 s x h = appE 2 1 8 s x h := appendV_of (by kernel_rfl) s x h

structure Coll (h0 : Heap) (tr : Tr V) (l : List V) (g : Heap) : Prop where
  n : h0.n + 3 ≤ g.n
  old : ∀ x, x < h0.n → g.get x = h0.get x
  mark : g.get (h0.n + 1) = some (.deferred true)
  loop : g.get (h0.n + 2) = some (.loop ⟨.ready, none, ⟨13, tr⟩, [7], (rc220 0).1, (rc220 0).2, h0.n + 1⟩)
  data : (l = [] ∧ ∃ c, g.get h0.n = some (.cells c 87) ∧ (c.ro = false ∧ c.size = 1) ∧ c.get 0 = .slice none 0 0 true) ∨
    (l ≠ [] ∧ ∃ c bj, g.get h0.n = some (.cells c 87) ∧ (c.ro = false ∧ c.size = 1) ∧ c.get 0 = .slice (some (bj, 0)) l.length l.length false ∧ h0.n + 4 ≤ bj ∧ g.get bj = some (.cells (Blk.of l) 2))

theorem round_ok {h0 g : Heap} {tr : Tr V} {l : List V} {R W : Set'} (hc : Coll h0 tr l g) (ht : tr.get 2 = some (.ptr (some (h0.n, 0)))) (hn : h0.n + 4 ≤ g.n) (hR : ∀ x, h0.n ≤ x → R x) (hW : ∀ x, h0.n ≤ x → W x) (hl : l.length ≤ 1000000) (k : Int) :
    SY ⟨Tryz.prog, true⟩ (h0.n + 2) [.int .i64 k] g R W fun v g' => v = .bool true ∧ Coll h0 tr (l ++ [.int .i64 k]) g' ∧ g'.get (h0.n + 3) = g.get (h0.n + 3) ∧ g.n ≤ g'.n := by
  refine SY.go hm hc.loop (hR _ (by omega)) (hW _ (by omega)) rfl ir220_a0_eq ir220_b0_eq ?_
  have hn0 := hc.n
  simp -implicitDefEqProofs (disch := (first | omega | (simp -implicitDefEqProofs only [szs, ne_eq] <;> omega) | fail)) only [go_sem, seval, ↓reduceIte, reduceCtorEq, ir220_a0, Tm.n_set]
  refine ⟨_, hc.loop, rfl, ?_⟩
  have hR0 := hR h0.n (by omega)
  have hW0 := hW h0.n (by omega)
  have hRx := hR g.n (by omega)
  have hxb : ∀ o : O, ((g.set (h0.n + 2) o).push (.cells (Blk.of [.int .i64 k]) 2)).get g.n = some (.cells (Blk.of [.int .i64 k]) 2) := fun o => w_push_eq (by simp) _
  rcases hc.data with ⟨rfl, c, hb, hs, hc0⟩ | ⟨hne, c, bj, hb, hs, hc0, hbj, hd⟩
  · have hA := fun o => append_first (e := 2) (bytes := 8) (hxb o) (by simp [w_of_size]) (w_of_get (by simp)) (by omega)
    simp only [w_getD_zero] at hA
    have hro := hs.1
    have hs2 := hs.2
    simp -implicitDefEqProofs (disch := (first | omega | (simp -implicitDefEqProofs only [szs, ne_eq] <;> omega) | fail)) only [go_sem, seval, ↓reduceIte, reduceCtorEq, ir220_b0, hro, ht, hb, hc0, ap_keys, hA, hR0, hW0, hRx]
    refine ⟨_, rfl, rfl, ⟨?_, fun x hx => ?_, ?_, ?_, .inr ⟨by simp, c.set 0 (.slice (some (g.n + 1, 0)) 1 1 false), g.n + 1, ?_, ⟨by rw [Blk.ro_set]; exact hs.1, by rw [Blk.size_set]; exact hs.2⟩, ?_, by omega, ?_⟩⟩, by omega⟩
    · simp -implicitDefEqProofs (disch := (first | omega | (simp -implicitDefEqProofs only [szs, ne_eq] <;> omega) | fail)) only [go_sem, seval, ↓reduceIte, reduceCtorEq]; omega
    · simp -implicitDefEqProofs (disch := (first | omega | (simp -implicitDefEqProofs only [szs, ne_eq] <;> omega) | fail)) only [go_sem, seval, ↓reduceIte, reduceCtorEq, hc.old]
    · simp -implicitDefEqProofs (disch := (first | omega | (simp -implicitDefEqProofs only [szs, ne_eq] <;> omega) | fail)) only [go_sem, seval, ↓reduceIte, reduceCtorEq, hc.mark]
    · simp -implicitDefEqProofs (disch := (first | omega | (simp -implicitDefEqProofs only [szs, ne_eq] <;> omega) | fail)) only [go_sem, seval, ↓reduceIte, reduceCtorEq]; rfl
    · simp -implicitDefEqProofs (disch := (first | omega | (simp -implicitDefEqProofs only [szs, ne_eq] <;> omega) | fail)) only [go_sem, seval, ↓reduceIte, reduceCtorEq]
    · simp -implicitDefEqProofs (disch := (first | omega | (simp -implicitDefEqProofs only [szs, ne_eq] <;> omega) | fail)) only [go_sem, seval, ↓reduceIte, reduceCtorEq]
    · simp -implicitDefEqProofs (disch := (first | omega | (simp -implicitDefEqProofs only [szs, ne_eq] <;> omega) | fail)) only [go_sem, seval, ↓reduceIte, reduceCtorEq]
  · have hlt := Heap.lt_of_get hd
    have hRj := hR bj (by omega)
    have hWj := hW bj (by omega)
    have hA := fun (o : O) => append_next (e := 2) (bytes := 8) (bj := bj) (l := l) (n := l.length) (hxb o) (by simp [w_of_size]) (w_of_get (by simp)) rfl rfl (by rw [w_push_ne (by simp; omega), w_set_ne (by omega) (by omega)]; exact hd) (by omega) (by omega)
    simp only [w_getD_zero] at hA
    have hro := hs.1
    have hs2 := hs.2
    simp -implicitDefEqProofs (disch := (first | omega | (simp -implicitDefEqProofs only [szs, ne_eq] <;> omega) | fail)) only [go_sem, seval, ↓reduceIte, reduceCtorEq, ir220_b0, hro, ht, hb, hc0, ap_keys, hA, hR0, hW0, hRx, hRj, hWj]
    refine ⟨_, rfl, rfl, ⟨?_, fun x hx => ?_, ?_, ?_, .inr ⟨by simp, c.set 0 (.slice (some (g.n + 1, 0)) (l.length + 1) (l.length + 1) false), g.n + 1, ?_, ⟨by rw [Blk.ro_set]; exact hs.1, by rw [Blk.size_set]; exact hs.2⟩, ?_, by omega, ?_⟩⟩, by omega⟩
    · simp -implicitDefEqProofs (disch := (first | omega | (simp -implicitDefEqProofs only [szs, ne_eq] <;> omega) | fail)) only [go_sem, seval, ↓reduceIte, reduceCtorEq]; omega
    · simp -implicitDefEqProofs (disch := (first | omega | (simp -implicitDefEqProofs only [szs, ne_eq] <;> omega) | fail)) only [go_sem, seval, ↓reduceIte, reduceCtorEq, hc.old]
    · simp -implicitDefEqProofs (disch := (first | omega | (simp -implicitDefEqProofs only [szs, ne_eq] <;> omega) | fail)) only [go_sem, seval, ↓reduceIte, reduceCtorEq, hc.mark]
    · simp -implicitDefEqProofs (disch := (first | omega | (simp -implicitDefEqProofs only [szs, ne_eq] <;> omega) | fail)) only [go_sem, seval, ↓reduceIte, reduceCtorEq]; rfl
    · simp -implicitDefEqProofs (disch := (first | omega | (simp -implicitDefEqProofs only [szs, ne_eq] <;> omega) | fail)) only [go_sem, seval, ↓reduceIte, reduceCtorEq]
    · simp -implicitDefEqProofs (disch := (first | omega | (simp -implicitDefEqProofs only [szs, ne_eq] <;> omega) | fail)) only [go_sem, seval, ↓reduceIte, reduceCtorEq, List.length_append]
    · simp -implicitDefEqProofs (disch := (first | omega | (simp -implicitDefEqProofs only [szs, ne_eq] <;> omega) | fail)) only [go_sem, seval, ↓reduceIte, reduceCtorEq]
theorem Coll.set_iter {h0 g : Heap} {tr : Tr V} {l : List V} (hc : Coll h0 tr l g) (hn : h0.n + 4 ≤ g.n) (o : O) : Coll h0 tr l (g.set (h0.n + 3) o) := by
  have hn0 := hc.n
  refine ⟨by simpa using hc.n, fun x hx => ?_, ?_, ?_, ?_⟩
  · rw [w_set_ne (by omega) (by omega)]; exact hc.old x hx
  · rw [w_set_ne (by omega) (by omega)]; exact hc.mark
  · rw [w_set_ne (by omega) (by omega)]; exact hc.loop
  · rcases hc.data with ⟨h1, c, hb, hs, hc0⟩ | ⟨hne, c, bj, hb, hs, hc0, hbj, hd⟩
    · exact .inl ⟨h1, c, by rw [w_set_ne (by omega) (by omega)]; exact hb, hs, hc0⟩
    · exact .inr ⟨hne, c, bj, by rw [w_set_ne (by omega) (by omega)]; exact hb, hs, hc0, hbj, by rw [w_set_ne (by omega) (by omega)]; exact hd⟩
theorem Coll.push_iter {h0 g : Heap} {tr : Tr V} {l : List V} (hc : Coll h0 tr l g) (o : O) : Coll h0 tr l (g.push o) := by
  have hn0 := hc.n
  have key : ∀ b x, g.get b = some x → (g.push o).get b = some x := fun b x e => by rw [w_push_ne (by have := Heap.lt_of_get e; omega)]; exact e
  refine ⟨by simp; omega, fun x hx => ?_, key _ _ hc.mark, key _ _ hc.loop, ?_⟩
  · rw [w_push_ne (by omega)]; exact hc.old x hx
  · rcases hc.data with ⟨h1, c, hb, hs, hc0⟩ | ⟨hne, c, bj, hb, hs, hc0, hbj, hd⟩
    · exact .inl ⟨h1, c, key _ _ hb, hs, hc0⟩
    · exact .inr ⟨hne, c, bj, key _ _ hb, hs, hc0, hbj, key _ _ hd⟩

structure KeysAt (h : Heap) (kb r : Nat) (es : Ents) (ck : Nat) : Prop where
  k : ∃ c, h.get kb = some (.cells c 200) ∧ c.size = 1 ∧ c.get 0 = .map (some r)
  m : h.get r = some (.map es ck)
  ok : EntsOk es ck
  ints : ∀ e ∈ es, ∃ k : Int, e.1 = .int .i64 k
  few : es.length ≤ 1000000

theorem keys_dem {h0 h1 : Heap} {tr : Tr V} {kb r : Nat} {es : Ents} {ck : Nat} {R W : Set'} (hc : Coll h0 tr [] h1) (hn1 : h1.n = h0.n + 3) (ht : tr.get 2 = some (.ptr (some (h0.n, 0)))) (hk : KeysAt h0 kb r es ck)
    (hRk : R kb) (hRr : R r) (hR : ∀ x, h0.n ≤ x → R x) (hW : ∀ x, h0.n ≤ x → W x) :
    SF ⟨Tryz.prog, true⟩ 202 [.yield (h0.n + 2), .ptr (some (kb, 0))] h1 R W fun _ g => ∃ l : Ents, l.Perm es ∧ Coll h0 tr (l.map (·.1)) g := by
  obtain ⟨c, g1, g2, g3⟩ := hk.k
  have hlt1 := Heap.lt_of_get g1
  have hlt2 := Heap.lt_of_get hk.m
  have hfew := hk.few
  have g1' : h1.get kb = some (.cells c 200) := by rw [hc.old kb hlt1]; exact g1
  have gm' : h1.get r = some (.map es ck) := by rw [hc.old r hlt2]; exact hk.m
  refine SF.go hm Tryz.func202 ir202_eq ?_
  simp -implicitDefEqProofs (disch := (first | omega | (simp -implicitDefEqProofs only [szs, ne_eq] <;> omega) | fail)) only [go_sem, seval, ↓reduceIte, reduceCtorEq, ir202, g1', g3, rangeV, gm', hRk, hRr, hn1]
  refine GLoop.inv hm (fun k f g => f.mks = [] ∧ f.tm.n = 14 ∧ f.tm.get 0 = some (.yield (h0.n + 2)) ∧ f.tm.get 5 = some (.ptr (some (h0.n + 3, 0))) ∧ h0.n + 4 ≤ g.n ∧
    ∃ l seen, Seen es seen l ∧ l.length + k = es.length ∧ g.get (h0.n + 3) = some (.iter (some r) ck seen ck) ∧ Coll h0 tr (l.map (·.1)) g) es.length ?_ ?_
  · refine ⟨rfl, rfl, rfl, ?_, by simp; omega, [], [], Seen.nil es, by simp, ?_, hc.push_iter _⟩
    · rfl
    · rw [w_push_eq (by omega)]
  rintro k ⟨⟨m, tr'⟩, mks⟩ g ⟨hmk, hn, t0, t5, hgn, l, seen, hs, hlk, hit, hcg⟩
  simp only [Tm.get_mk] at hmk hn t0 t5
  subst hmk hn
  have hgr : g.get r = some (.map es ck) := by rw [hcg.old r hlt2]; exact hk.m
  have hR3 := hR (h0.n + 3) (by omega)
  have hW3 := hW (h0.n + 3) (by omega)
  simp -implicitDefEqProofs (disch := (first | omega | (simp -implicitDefEqProofs only [szs, ne_eq] <;> omega) | fail)) only [go_sem, seval, ↓reduceIte, reduceCtorEq, ir202_l0, t5, SNext, hit, hgr, hRr, hR3, hW3]
  refine ⟨?_, ?_, ?_⟩
  · cases es with
    | nil => exact .inr (.inl rfl)
    | cons e es => exact .inr (.inr ⟨e, by simp, hk.ok.lt e (by simp)⟩)
  · intro hall
    have hp := hs.last hk.ok fun e he => hall e he (hk.ok.lt e he)
    exact ⟨l, hp, hcg⟩
  · intro e he hns
    have hs' := hs.step he hns
    have hle := hs'.length
    rw [List.length_append, List.length_singleton] at hle
    have hE := entry_at (g := g.set (h0.n + 3) (.iter (some r) ck (seen ++ [e.2.2]) ck)) (b := h0.n + 3) (w_set_eq (by omega) rfl _) (by rw [w_set_ne (by omega) (by omega)]; exact hgr) hk.ok he
    obtain ⟨key, hkey⟩ := hk.ints e he
    simp -implicitDefEqProofs (disch := (first | omega | (simp -implicitDefEqProofs only [szs, ne_eq] <;> omega) | fail)) only [go_sem, seval, ↓reduceIte, reduceCtorEq, hE, hkey, t0, hRr, hR3]
    refine GYield.of (round_ok (hcg.set_iter (by omega) _) ht (by simp; omega) (fun x hx => .inr (hR x hx)) (fun x hx => .inr (hW x hx)) (by simp; omega) key) ?_
    rintro v g' ⟨rfl, hc', hit', hn'⟩
    rw [w_set_eq (by omega) rfl] at hit'
    simp only [Heap.n_set] at hn'
    simp -implicitDefEqProofs (disch := (first | omega | (simp -implicitDefEqProofs only [szs, ne_eq] <;> omega) | fail)) only [go_sem, seval, ↓reduceIte, reduceCtorEq, t0, t5]
    refine ⟨k - 1, by omega, by omega, l ++ [e], _, hs', by simp; omega, hit', ?_⟩
    rw [List.map_append, List.map_singleton, hkey]
    exact hc'
def Collected (h : Heap) (l : List V) (v : V) (g : Heap) : Prop :=
  (∀ x, x < h.n → g.get x = h.get x) ∧ ((l = [] ∧ v = .slice none 0 0 true) ∨ l ≠ [] ∧ ∃ bj, v = .slice (some (bj, 0)) l.length l.length false ∧ h.n ≤ bj ∧ g.get bj = some (.cells (Blk.of l) 2))
theorem appendSeq_dem {h : Heap} {kb r : Nat} {es : Ents} {ck : Nat} {R W : Set'} (hk : KeysAt h kb r es ck) (hRk : R kb) (hRr : R r) :
    SF ⟨Tryz.prog, true⟩ 220 [.slice none 0 0 true, .func 202 [] [.ptr (some (kb, 0))]] h R W fun v g => ∃ l : Ents, l.Perm es ∧ Collected h (l.map (·.1)) v g := by
  refine SF.go hm Tryz.func220 ir220_eq ?_
  simp -implicitDefEqProofs (disch := (first | omega | (simp -implicitDefEqProofs only [szs, ne_eq] <;> omega) | fail)) only [go_sem, seval, ↓reduceIte, reduceCtorEq, ir220]
  refine GRange.outer (k := 202) (xs := []) (ys := [.ptr (some (kb, 0))]) rfl ca_202 ?_
  refine SF.mono (keys_dem (h0 := h) (tr := (Tr.node (Tr.node .nil (some (V.func 202 [] [V.ptr (some (kb, 0))])) .nil) (some (V.slice none 0 0 true)) (Tr.node (Tr.node .nil (some (V.slice none 0 0 true)) .nil) (some (V.ptr (some (h.n, 0)))) (Tr.node .nil (some (V.func 202 [] [V.ptr (some (kb, 0))])) .nil)))) (kb := kb) (r := r) (es := es) (ck := ck) ?_ rfl rfl hk (.inr hRk) (.inr hRr) (fun x hx => .inl hx) (fun x hx => .inl hx)) ?_
  · refine ⟨by simp, fun x hx => ?_, ?_, ?_, .inl ⟨rfl, Blk.of [.slice none 0 0 true], ?_, ⟨rfl, rfl⟩, rfl⟩⟩
    · simp -implicitDefEqProofs (disch := (first | omega | (simp -implicitDefEqProofs only [szs, ne_eq] <;> omega) | fail)) only [go_sem, seval, ↓reduceIte, reduceCtorEq]
    · simp -implicitDefEqProofs (disch := (first | omega | (simp -implicitDefEqProofs only [szs, ne_eq] <;> omega) | fail)) only [go_sem, seval, ↓reduceIte, reduceCtorEq]
    · simp -implicitDefEqProofs (disch := (first | omega | (simp -implicitDefEqProofs only [szs, ne_eq] <;> omega) | fail)) only [go_sem, seval, ↓reduceIte, reduceCtorEq]
    · simp -implicitDefEqProofs (disch := (first | omega | (simp -implicitDefEqProofs only [szs, ne_eq] <;> omega) | fail)) only [go_sem, seval, ↓reduceIte, reduceCtorEq]
  rintro v g ⟨l, hp, hc⟩
  have hn0 := hc.n
  refine ⟨_, hc.loop, by simp, .inl (by simp; omega), ?_⟩
  simp only []
  rcases hc.data with ⟨hl, c, hb, hs, hc0⟩ | ⟨hne, c, bj, hb, hs, hc0, hbj, hd⟩
  · have hs2 := hs.2
    simp -implicitDefEqProofs (disch := (first | omega | (simp -implicitDefEqProofs only [szs, ne_eq] <;> omega) | fail)) only [go_sem, seval, ↓reduceIte, reduceCtorEq, hb, hc0, hc.mark]
    refine ⟨l, hp, fun x hx => ?_, .inl ⟨hl, rfl⟩⟩
    rw [w_set_ne (by simp; omega) (by omega), w_set_ne (by omega) (by omega)]; exact hc.old x hx
  · have hs2 := hs.2
    simp -implicitDefEqProofs (disch := (first | omega | (simp -implicitDefEqProofs only [szs, ne_eq] <;> omega) | fail)) only [go_sem, seval, ↓reduceIte, reduceCtorEq, hb, hc0, hc.mark]
    refine ⟨l, hp, fun x hx => ?_, .inr ⟨hne, bj, rfl, by omega, ?_⟩⟩
    · rw [w_set_ne (by simp; omega) (by omega), w_set_ne (by omega) (by omega)]; exact hc.old x hx
    · rw [w_set_ne (by simp; omega) (by omega), w_set_ne (by omega) (by omega)]; exact hd
theorem collect_dem {h : Heap} {kb r : Nat} {es : Ents} {ck : Nat} {R W : Set'} (hk : KeysAt h kb r es ck) (hRk : R kb) (hRr : R r) :
    SF ⟨Tryz.prog, true⟩ 200 [.func 202 [] [.ptr (some (kb, 0))]] h R W fun v g => ∃ l : Ents, l.Perm es ∧ Collected h (l.map (·.1)) v g := by
  refine SF.go hm Tryz.func200 ir200_eq ?_
  simp -implicitDefEqProofs (disch := (first | omega | (simp -implicitDefEqProofs only [szs, ne_eq] <;> omega) | fail)) only [go_sem, seval, ↓reduceIte, reduceCtorEq, ir200]
  refine GCall.of (appendSeq_dem hk (.inr hRk) (.inr hRr)) ?_
  rintro v g hc
  simp -implicitDefEqProofs (disch := (first | omega | (simp -implicitDefEqProofs only [szs, ne_eq] <;> omega) | fail)) only [go_sem, seval, ↓reduceIte, reduceCtorEq]
  exact hc
end Go.Proofs.YtdfihilgbeogbaaGreat
