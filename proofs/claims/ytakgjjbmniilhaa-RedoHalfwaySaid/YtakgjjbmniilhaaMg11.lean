/- slices.Sorted of a map's keys: the keys collected, whatever order the map hands them out in. -/
import Derived.Test.YtakgjjbmniilhaaTy
import Derived.Test.YtakgjjbmniilhaaIr
import Derived.Test.YtakgjjbmniilhaaV4
import Derived.Ground.SlgmProg
import Derived.Shelf.SortM.Plain
import Derived.Test.YtakgjjbmniilhaaProg
import Derived.Test.YtakgjjbmniilhaaV2
import Derived.Test.YtakgjjbmniilhaaMg10
set_option linter.unusedVariables false
set_option linter.unusedSimpArgs false
set_option linter.unusedSimpArgs false
set_option maxRecDepth 100000
set_option linter.unusedVariables false
set_option linter.unusedSimpArgs false
namespace Go.Proofs.Ytakgjjbmniilhaa
open Go Go.Vm

theorem ap_keys (s x : V) (h : Heap) : appendV Try.prog 66 66 s x h = appE 3 1 8 s x h := appendV_of (by kernel_rfl) s x h

structure Coll (h0 : Heap) (tr : Tr V) (l : List V) (g : Heap) : Prop where
  n : h0.n + 3 ≤ g.n
  old : ∀ x, x < h0.n → g.get x = h0.get x
  mark : g.get (h0.n + 1) = some (.deferred true)
  loop : g.get (h0.n + 2) = some (.loop ⟨.ready, none, ⟨13, tr⟩, [7], (rc102 0).1, (rc102 0).2, h0.n + 1⟩)
  data : (l = [] ∧ ∃ c, g.get h0.n = some (.cells c 66) ∧ (c.ro = false ∧ c.size = 1) ∧ c.get 0 = .slice none 0 0 true) ∨
    (l ≠ [] ∧ ∃ c bj, g.get h0.n = some (.cells c 66) ∧ (c.ro = false ∧ c.size = 1) ∧ c.get 0 = .slice (some (bj, 0)) l.length l.length false ∧ h0.n + 4 ≤ bj ∧ g.get bj = some (.cells (Blk.of l) 3))

set_option maxHeartbeats 4000000 in
theorem round_ok {h0 g : Heap} {tr : Tr V} {l : List V} {R W : Set'} (hc : Coll h0 tr l g) (ht : tr.get 2 = some (.ptr (some (h0.n, 0)))) (hn : h0.n + 4 ≤ g.n) (hR : ∀ x, h0.n ≤ x → R x) (hW : ∀ x, h0.n ≤ x → W x) (hl : l.length ≤ 1000000) (k : Int) :
    SY ⟨Try.prog, true⟩ (h0.n + 2) [.int .i64 k] g R W fun v g' => v = .bool true ∧ Coll h0 tr (l ++ [.int .i64 k]) g' ∧ g'.get (h0.n + 3) = g.get (h0.n + 3) ∧ g.n ≤ g'.n := by
  refine SY.go hm hc.loop (hR _ (by omega)) (hW _ (by omega)) rfl ir102_a0_eq ir102_b0_eq ?_
  have hn0 := hc.n
  simp -implicitDefEqProofs (disch := (first | omega | (simp -implicitDefEqProofs only [szs, ne_eq] <;> omega) | fail)) only [go_sem, seval, ↓reduceIte, reduceCtorEq, ir102_a0, Tm.n_set]
  refine ⟨_, hc.loop, rfl, ?_⟩
  have hR0 := hR h0.n (by omega)
  have hW0 := hW h0.n (by omega)
  have hRx := hR g.n (by omega)
  have hxb : ∀ o : O, ((g.set (h0.n + 2) o).push (.cells (Blk.of [.int .i64 k]) 3)).get g.n = some (.cells (Blk.of [.int .i64 k]) 3) := fun o => w_push_eq (by simp) _
  rcases hc.data with ⟨rfl, c, hb, hs, hc0⟩ | ⟨hne, c, bj, hb, hs, hc0, hbj, hd⟩
  · have hA := fun o => append_first (e := 3) (bytes := 8) (hxb o) (by simp [w_of_size]) (w_of_get (by simp)) (by omega)
    simp only [w_getD_zero] at hA
    have hro := hs.1
    have hs2 := hs.2
    simp -implicitDefEqProofs (disch := (first | omega | (simp -implicitDefEqProofs only [szs, ne_eq] <;> omega) | fail)) only [go_sem, seval, ↓reduceIte, reduceCtorEq, ir102_b0, hro, ht, hb, hc0, ap_keys, hA, hR0, hW0, hRx]
    refine ⟨_, rfl, rfl, ⟨?_, fun x hx => ?_, ?_, ?_, .inr ⟨by simp, c.set 0 (.slice (some (g.n + 1, 0)) 1 1 false), g.n + 1, ?_, ⟨by rw [Blk.ro_set]; exact hs.1, by rw [Blk.size_set]; exact hs.2⟩, ?_, by omega, ?_⟩⟩, by omega⟩
    · simp -implicitDefEqProofs (disch := (first | omega | (simp -implicitDefEqProofs only [szs, ne_eq] <;> omega) | fail)) only [go_sem, seval, ↓reduceIte, reduceCtorEq]; omega
    · simp -implicitDefEqProofs (disch := (first | omega | (simp -implicitDefEqProofs only [szs, ne_eq] <;> omega) | fail)) only [go_sem, seval, ↓reduceIte, reduceCtorEq, hc.old]
    · simp -implicitDefEqProofs (disch := (first | omega | (simp -implicitDefEqProofs only [szs, ne_eq] <;> omega) | fail)) only [go_sem, seval, ↓reduceIte, reduceCtorEq, hc.mark]
    · simp -implicitDefEqProofs (disch := (first | omega | (simp -implicitDefEqProofs only [szs, ne_eq] <;> omega) | fail)) only [go_sem, seval, ↓reduceIte, reduceCtorEq]; rfl
    · simp -implicitDefEqProofs (disch := (first | omega | (simp -implicitDefEqProofs only [szs, ne_eq] <;> omega) | fail)) only [go_sem, seval, ↓reduceIte, reduceCtorEq]
    · simp -implicitDefEqProofs (disch := (first | omega | (simp -implicitDefEqProofs only [szs, ne_eq] <;> omega) | fail)) only [go_sem, seval, ↓reduceIte, reduceCtorEq]
    · simp -implicitDefEqProofs (disch := (first | omega | (simp -implicitDefEqProofs only [szs, ne_eq] <;> omega) | fail)) only [go_sem, seval, ↓reduceIte, reduceCtorEq]
  · have hlt := Heap.lt_of_get hd
    have hRj := hR bj (by omega)
    have hWj := hW bj (by omega)
    have hA := fun (o : O) => append_next (e := 3) (bytes := 8) (bj := bj) (l := l) (n := l.length) (hxb o) (by simp [w_of_size]) (w_of_get (by simp)) rfl rfl (by rw [w_push_ne (by simp; omega), w_set_ne (by omega) (by omega)]; exact hd) (by omega) (by omega)
    simp only [w_getD_zero] at hA
    have hro := hs.1
    have hs2 := hs.2
    simp -implicitDefEqProofs (disch := (first | omega | (simp -implicitDefEqProofs only [szs, ne_eq] <;> omega) | fail)) only [go_sem, seval, ↓reduceIte, reduceCtorEq, ir102_b0, hro, ht, hb, hc0, ap_keys, hA, hR0, hW0, hRx, hRj, hWj]
    refine ⟨_, rfl, rfl, ⟨?_, fun x hx => ?_, ?_, ?_, .inr ⟨by simp, c.set 0 (.slice (some (g.n + 1, 0)) (l.length + 1) (l.length + 1) false), g.n + 1, ?_, ⟨by rw [Blk.ro_set]; exact hs.1, by rw [Blk.size_set]; exact hs.2⟩, ?_, by omega, ?_⟩⟩, by omega⟩
    · simp -implicitDefEqProofs (disch := (first | omega | (simp -implicitDefEqProofs only [szs, ne_eq] <;> omega) | fail)) only [go_sem, seval, ↓reduceIte, reduceCtorEq]; omega
    · simp -implicitDefEqProofs (disch := (first | omega | (simp -implicitDefEqProofs only [szs, ne_eq] <;> omega) | fail)) only [go_sem, seval, ↓reduceIte, reduceCtorEq, hc.old]
    · simp -implicitDefEqProofs (disch := (first | omega | (simp -implicitDefEqProofs only [szs, ne_eq] <;> omega) | fail)) only [go_sem, seval, ↓reduceIte, reduceCtorEq, hc.mark]
    · simp -implicitDefEqProofs (disch := (first | omega | (simp -implicitDefEqProofs only [szs, ne_eq] <;> omega) | fail)) only [go_sem, seval, ↓reduceIte, reduceCtorEq]; rfl
    · simp -implicitDefEqProofs (disch := (first | omega | (simp -implicitDefEqProofs only [szs, ne_eq] <;> omega) | fail)) only [go_sem, seval, ↓reduceIte, reduceCtorEq]
    · simp -implicitDefEqProofs (disch := (first | omega | (simp -implicitDefEqProofs only [szs, ne_eq] <;> omega) | fail)) only [go_sem, seval, ↓reduceIte, reduceCtorEq, List.length_append]
    · simp -implicitDefEqProofs (disch := (first | omega | (simp -implicitDefEqProofs only [szs, ne_eq] <;> omega) | fail)) only [go_sem, seval, ↓reduceIte, reduceCtorEq]
theorem Coll.set_iter {h0 g : Heap} {tr : Tr V} {l : List V} (hc : Coll h0 tr l g) (hn : h0.n + 4 ≤ g.n) (o : O) : Coll h0 tr l (g.set (h0.n + 3) o) := by
  have hn0 := hc.n
  refine ⟨by simpa using hc.n, fun x hx => ?_, ?_, ?_, ?_⟩
  · rw [w_set_ne (by omega) (by omega)]; exact hc.old x hx
  · rw [w_set_ne (by omega) (by omega)]; exact hc.mark
  · rw [w_set_ne (by omega) (by omega)]; exact hc.loop
  · rcases hc.data with ⟨h1, c, hb, hs, hc0⟩ | ⟨hne, c, bj, hb, hs, hc0, hbj, hd⟩
    · exact .inl ⟨h1, c, by rw [w_set_ne (by omega) (by omega)]; exact hb, hs, hc0⟩
    · exact .inr ⟨hne, c, bj, by rw [w_set_ne (by omega) (by omega)]; exact hb, hs, hc0, hbj, by rw [w_set_ne (by omega) (by omega)]; exact hd⟩
theorem Coll.push_iter {h0 g : Heap} {tr : Tr V} {l : List V} (hc : Coll h0 tr l g) (o : O) : Coll h0 tr l (g.push o) := by
  have hn0 := hc.n
  have key : ∀ b x, g.get b = some x → (g.push o).get b = some x := fun b x e => by rw [w_push_ne (by have := Heap.lt_of_get e; omega)]; exact e
  refine ⟨by simp; omega, fun x hx => ?_, key _ _ hc.mark, key _ _ hc.loop, ?_⟩
  · rw [w_push_ne (by omega)]; exact hc.old x hx
  · rcases hc.data with ⟨h1, c, hb, hs, hc0⟩ | ⟨hne, c, bj, hb, hs, hc0, hbj, hd⟩
    · exact .inl ⟨h1, c, key _ _ hb, hs, hc0⟩
    · exact .inr ⟨hne, c, bj, key _ _ hb, hs, hc0, hbj, key _ _ hd⟩

structure KeysAt (h : Heap) (kb r : Nat) (es : Ents) (ck : Nat) : Prop where
  k : ∃ c, h.get kb = some (.cells c 78) ∧ c.size = 1 ∧ c.get 0 = .map (some r)
  m : h.get r = some (.map es ck)
  ok : EntsOk es ck
  ints : ∀ e ∈ es, ∃ k : Int, e.1 = .int .i64 k
  few : es.length ≤ 1000000

set_option maxHeartbeats 4000000 in
theorem keys_dem {h0 h1 : Heap} {tr : Tr V} {kb r : Nat} {es : Ents} {ck : Nat} {R W : Set'} (hc : Coll h0 tr [] h1) (hn1 : h1.n = h0.n + 3) (ht : tr.get 2 = some (.ptr (some (h0.n, 0)))) (hk : KeysAt h0 kb r es ck)
    (hRk : R kb) (hRr : R r) (hR : ∀ x, h0.n ≤ x → R x) (hW : ∀ x, h0.n ≤ x → W x) :
    SF ⟨Try.prog, true⟩ 99 [.yield (h0.n + 2), .ptr (some (kb, 0))] h1 R W fun _ g => ∃ l : Ents, l.Perm es ∧ Coll h0 tr (l.map (·.1)) g := by
  obtain ⟨c, g1, g2, g3⟩ := hk.k
  have hlt1 := Heap.lt_of_get g1
  have hlt2 := Heap.lt_of_get hk.m
  have hfew := hk.few
  have g1' : h1.get kb = some (.cells c 78) := by rw [hc.old kb hlt1]; exact g1
  have gm' : h1.get r = some (.map es ck) := by rw [hc.old r hlt2]; exact hk.m
  refine SF.go hm Try.func99 ir99_eq ?_
  simp -implicitDefEqProofs (disch := (first | omega | (simp -implicitDefEqProofs only [szs, ne_eq] <;> omega) | fail)) only [go_sem, seval, ↓reduceIte, reduceCtorEq, ir99, g1', g3, rangeV, gm', hRk, hRr, hn1]
  refine GLoop.inv hm (fun k f g => f.mks = [] ∧ f.tm.n = 14 ∧ f.tm.get 0 = some (.yield (h0.n + 2)) ∧ f.tm.get 5 = some (.ptr (some (h0.n + 3, 0))) ∧ h0.n + 4 ≤ g.n ∧
    ∃ l seen, Seen es seen l ∧ l.length + k = es.length ∧ g.get (h0.n + 3) = some (.iter (some r) ck seen ck) ∧ Coll h0 tr (l.map (·.1)) g) es.length ?_ ?_
  · refine ⟨rfl, rfl, rfl, ?_, by simp; omega, [], [], Seen.nil es, by simp, ?_, hc.push_iter _⟩
    · rfl
    · rw [w_push_eq (by omega)]
  rintro k ⟨⟨m, tr'⟩, mks⟩ g ⟨hmk, hn, t0, t5, hgn, l, seen, hs, hlk, hit, hcg⟩
  simp only [Tm.get_mk] at hmk hn t0 t5
  subst hmk hn
  have hgr : g.get r = some (.map es ck) := by rw [hcg.old r hlt2]; exact hk.m
  have hR3 := hR (h0.n + 3) (by omega)
  have hW3 := hW (h0.n + 3) (by omega)
  simp -implicitDefEqProofs (disch := (first | omega | (simp -implicitDefEqProofs only [szs, ne_eq] <;> omega) | fail)) only [go_sem, seval, ↓reduceIte, reduceCtorEq, ir99_l0, t5, SNext, hit, hgr, hRr, hR3, hW3]
  refine ⟨?_, ?_, ?_⟩
  · cases es with
    | nil => exact .inr (.inl rfl)
    | cons e es => exact .inr (.inr ⟨e, by simp, hk.ok.lt e (by simp)⟩)
  · intro hall
    have hp := hs.last hk.ok fun e he => hall e he (hk.ok.lt e he)
    exact ⟨l, hp, hcg⟩
  · intro e he hns
    have hs' := hs.step he hns
    have hle := hs'.length
    rw [List.length_append, List.length_singleton] at hle
    have hE := entry_at (g := g.set (h0.n + 3) (.iter (some r) ck (seen ++ [e.2.2]) ck)) (b := h0.n + 3) (w_set_eq (by omega) rfl _) (by rw [w_set_ne (by omega) (by omega)]; exact hgr) hk.ok he
    obtain ⟨key, hkey⟩ := hk.ints e he
    simp -implicitDefEqProofs (disch := (first | omega | (simp -implicitDefEqProofs only [szs, ne_eq] <;> omega) | fail)) only [go_sem, seval, ↓reduceIte, reduceCtorEq, hE, hkey, t0, hRr, hR3]
    refine GYield.of (round_ok (hcg.set_iter (by omega) _) ht (by simp; omega) (fun x hx => .inr (hR x hx)) (fun x hx => .inr (hW x hx)) (by simp; omega) key) ?_
    rintro v g' ⟨rfl, hc', hit', hn'⟩
    rw [w_set_eq (by omega) rfl] at hit'
    simp only [Heap.n_set] at hn'
    simp -implicitDefEqProofs (disch := (first | omega | (simp -implicitDefEqProofs only [szs, ne_eq] <;> omega) | fail)) only [go_sem, seval, ↓reduceIte, reduceCtorEq, t0, t5]
    refine ⟨k - 1, by omega, by omega, l ++ [e], _, hs', by simp; omega, hit', ?_⟩
    rw [List.map_append, List.map_singleton, hkey]
    exact hc'
def Collected (h : Heap) (l : List V) (v : V) (g : Heap) : Prop :=
  (∀ x, x < h.n → g.get x = h.get x) ∧ ((l = [] ∧ v = .slice none 0 0 true) ∨ l ≠ [] ∧ ∃ bj, v = .slice (some (bj, 0)) l.length l.length false ∧ h.n ≤ bj ∧ g.get bj = some (.cells (Blk.of l) 3))
set_option maxHeartbeats 4000000 in
theorem appendSeq_dem {h : Heap} {kb r : Nat} {es : Ents} {ck : Nat} {R W : Set'} (hk : KeysAt h kb r es ck) (hRk : R kb) (hRr : R r) :
    SF ⟨Try.prog, true⟩ 102 [.slice none 0 0 true, .func 99 [] [.ptr (some (kb, 0))]] h R W fun v g => ∃ l : Ents, l.Perm es ∧ Collected h (l.map (·.1)) v g := by
  refine SF.go hm Try.func102 ir102_eq ?_
  simp -implicitDefEqProofs (disch := (first | omega | (simp -implicitDefEqProofs only [szs, ne_eq] <;> omega) | fail)) only [go_sem, seval, ↓reduceIte, reduceCtorEq, ir102]
  refine GRange.outer (k := 99) (xs := []) (ys := [.ptr (some (kb, 0))]) rfl ca_99 ?_
  refine SF.mono (keys_dem (h0 := h) (tr := (Tr.node (Tr.node .nil (some (V.func 99 [] [V.ptr (some (kb, 0))])) .nil) (some (V.slice none 0 0 true)) (Tr.node (Tr.node .nil (some (V.slice none 0 0 true)) .nil) (some (V.ptr (some (h.n, 0)))) (Tr.node .nil (some (V.func 99 [] [V.ptr (some (kb, 0))])) .nil)))) (kb := kb) (r := r) (es := es) (ck := ck) ?_ rfl rfl hk (.inr hRk) (.inr hRr) (fun x hx => .inl hx) (fun x hx => .inl hx)) ?_
  · refine ⟨by simp, fun x hx => ?_, ?_, ?_, .inl ⟨rfl, Blk.of [.slice none 0 0 true], ?_, ⟨rfl, rfl⟩, rfl⟩⟩
    · simp -implicitDefEqProofs (disch := (first | omega | (simp -implicitDefEqProofs only [szs, ne_eq] <;> omega) | fail)) only [go_sem, seval, ↓reduceIte, reduceCtorEq]
    · simp -implicitDefEqProofs (disch := (first | omega | (simp -implicitDefEqProofs only [szs, ne_eq] <;> omega) | fail)) only [go_sem, seval, ↓reduceIte, reduceCtorEq]
    · simp -implicitDefEqProofs (disch := (first | omega | (simp -implicitDefEqProofs only [szs, ne_eq] <;> omega) | fail)) only [go_sem, seval, ↓reduceIte, reduceCtorEq]
    · simp -implicitDefEqProofs (disch := (first | omega | (simp -implicitDefEqProofs only [szs, ne_eq] <;> omega) | fail)) only [go_sem, seval, ↓reduceIte, reduceCtorEq]
  rintro v g ⟨l, hp, hc⟩
  have hn0 := hc.n
  refine ⟨_, hc.loop, by simp, .inl (by simp; omega), ?_⟩
  simp only []
  rcases hc.data with ⟨hl, c, hb, hs, hc0⟩ | ⟨hne, c, bj, hb, hs, hc0, hbj, hd⟩
  · have hs2 := hs.2
    simp -implicitDefEqProofs (disch := (first | omega | (simp -implicitDefEqProofs only [szs, ne_eq] <;> omega) | fail)) only [go_sem, seval, ↓reduceIte, reduceCtorEq, hb, hc0, hc.mark]
    refine ⟨l, hp, fun x hx => ?_, .inl ⟨hl, rfl⟩⟩
    rw [w_set_ne (by simp; omega) (by omega), w_set_ne (by omega) (by omega)]; exact hc.old x hx
  · have hs2 := hs.2
    simp -implicitDefEqProofs (disch := (first | omega | (simp -implicitDefEqProofs only [szs, ne_eq] <;> omega) | fail)) only [go_sem, seval, ↓reduceIte, reduceCtorEq, hb, hc0, hc.mark]
    refine ⟨l, hp, fun x hx => ?_, .inr ⟨hne, bj, rfl, by omega, ?_⟩⟩
    · rw [w_set_ne (by simp; omega) (by omega), w_set_ne (by omega) (by omega)]; exact hc.old x hx
    · rw [w_set_ne (by simp; omega) (by omega), w_set_ne (by omega) (by omega)]; exact hd
theorem collect_dem {h : Heap} {kb r : Nat} {es : Ents} {ck : Nat} {R W : Set'} (hk : KeysAt h kb r es ck) (hRk : R kb) (hRr : R r) :
    SF ⟨Try.prog, true⟩ 97 [.func 99 [] [.ptr (some (kb, 0))]] h R W fun v g => ∃ l : Ents, l.Perm es ∧ Collected h (l.map (·.1)) v g := by
  refine SF.go hm Try.func97 ir97_eq ?_
  simp -implicitDefEqProofs (disch := (first | omega | (simp -implicitDefEqProofs only [szs, ne_eq] <;> omega) | fail)) only [go_sem, seval, ↓reduceIte, reduceCtorEq, ir97]
  refine GCall.of (appendSeq_dem hk (.inr hRk) (.inr hRr)) ?_
  rintro v g hc
  simp -implicitDefEqProofs (disch := (first | omega | (simp -implicitDefEqProofs only [szs, ne_eq] <;> omega) | fail)) only [go_sem, seval, ↓reduceIte, reduceCtorEq]
  exact hc
end Go.Proofs.Ytakgjjbmniilhaa
set_option maxRecDepth 100000
namespace Go.Proofs.Ytakgjjbmniilhaa
open Go Go.Shelf Go.Proofs
def laysSort_ren : Go.Shelf.Ren := ⟨fun | 5 => 98 | 8 => 104 | 7 => 103 | 19 => 114 | 20 => 115 | 10 => 105 | 11 => 106 | 12 => 107 | 13 => 108 | 14 => 109 | 15 => 110 | 16 => 111 | 17 => 112 | 18 => 113 | 30 => 116 | 31 => 117 | 32 => 118 | 33 => 119 | 34 => 120 | 35 => 121 | 40 => 122 | n => n, fun | 23 => 66 | 25 => 3 | 3 => 3 | 32 => 169 | 22 => 66 | 0 => 0 | 44 => 183 | 46 => 42 | 4 => 4 | 36 => 176 | 35 => 175 | 41 => 180 | 5 => 5 | 9 => 9 | 53 => 185 | 57 => 189 | 63 => 191 | 64 => 30 | n => n, fun | n => n⟩
theorem laysSort : Go.Proofs.SlLaysM.n5 Try.prog laysSort_ren := {
  mixed := by kernel_rfl
  f5 := ⟨Try.f98.name, by decide, Try.func98.trans (congrArg some (by kernel_rfl))⟩
  f7 := ⟨Try.f103.name, by decide, Try.func103.trans (congrArg some (by kernel_rfl))⟩
  f8 := Try.func104.trans (congrArg some (by kernel_rfl))
  f10 := ⟨Try.f105.name, by decide, Try.func105.trans (congrArg some (by kernel_rfl))⟩
  f11 := ⟨Try.f106.name, by decide, Try.func106.trans (congrArg some (by kernel_rfl))⟩
  f12 := ⟨Try.f107.name, by decide, Try.func107.trans (congrArg some (by kernel_rfl))⟩
  f13 := ⟨Try.f108.name, by decide, Try.func108.trans (congrArg some (by kernel_rfl))⟩
  f14 := ⟨Try.f109.name, by decide, Try.func109.trans (congrArg some (by kernel_rfl))⟩
  f15 := ⟨Try.f110.name, by decide, Try.func110.trans (congrArg some (by kernel_rfl))⟩
  f16 := ⟨Try.f111.name, by decide, Try.func111.trans (congrArg some (by kernel_rfl))⟩
  f17 := ⟨Try.f112.name, by decide, Try.func112.trans (congrArg some (by kernel_rfl))⟩
  f18 := ⟨Try.f113.name, by decide, Try.func113.trans (congrArg some (by kernel_rfl))⟩
  f19 := Try.func114.trans (congrArg some (by kernel_rfl))
  f20 := Try.func115.trans (congrArg some (by kernel_rfl))
  f30 := ⟨Try.f116.name, by decide, Try.func116.trans (congrArg some (by kernel_rfl))⟩
  f31 := Try.func117.trans (congrArg some (by kernel_rfl))
  f32 := Try.func118.trans (congrArg some (by kernel_rfl))
  f33 := ⟨Try.f119.name, by decide, Try.func119.trans (congrArg some (by kernel_rfl))⟩
  f34 := ⟨Try.f120.name, by decide, Try.func120.trans (congrArg some (by kernel_rfl))⟩
  f35 := ⟨Try.f121.name, by decide, Try.func121.trans (congrArg some (by kernel_rfl))⟩
  f40 := ⟨Try.f122.name, by decide, Try.func122.trans (congrArg some (by kernel_rfl))⟩
  t0 := Try.underlying0
  a0 := Try.isAgg0
  z0 := Try.sizeOf0
  v0 := Try.zeroValue0
  t3 := Try.underlying3
  a3 := Try.isAgg3
  z3 := Try.sizeOf3
  v3 := Try.zeroValue3
  t4 := Try.underlying4
  a4 := Try.isAgg4
  z4 := Try.sizeOf4
  v4 := Try.zeroValue4
  t5 := Try.underlying5
  a5 := Try.isAgg5
  z5 := Try.sizeOf5
  v5 := Try.zeroValue5
  t9 := Try.underlying9
  a9 := Try.isAgg9
  z9 := Try.sizeOf9
  v9 := Try.zeroValue9
  t22 := Try.underlying66
  a22 := Try.isAgg66
  z22 := Try.sizeOf66
  v22 := Try.zeroValue66
  t23 := Try.underlying66
  a23 := Try.isAgg66
  z23 := Try.sizeOf66
  v23 := Try.zeroValue66
  t25 := Try.underlying3
  a25 := Try.isAgg3
  z25 := Try.sizeOf3
  v25 := Try.zeroValue3
  t32 := Try.underlying169
  a32 := Try.isAgg169
  z32 := Try.sizeOf169
  v32 := Try.zeroValue169
  t35 := Try.underlying175
  a35 := Try.isAgg175
  z35 := Try.sizeOf175
  v35 := Try.zeroValue175
  t36 := Try.underlying176
  a36 := Try.isAgg176
  z36 := Try.sizeOf176
  v36 := Try.zeroValue176
  t41 := Try.underlying180
  a41 := Try.isAgg180
  z41 := Try.sizeOf180
  v41 := Try.zeroValue180
  t44 := Try.underlying183
  a44 := Try.isAgg183
  z44 := Try.sizeOf183
  v44 := Try.zeroValue183
  t46 := Try.underlying42
  a46 := Try.isAgg42
  z46 := Try.sizeOf42
  v46 := Try.zeroValue42
  t53 := Try.underlying185
  a53 := Try.isAgg185
  z53 := Try.sizeOf185
  v53 := Try.zeroValue185
  t57 := Try.underlying189
  a57 := Try.isAgg189
  z57 := Try.sizeOf189
  v57 := Try.zeroValue189
  t63 := Try.underlying191
  a63 := Try.isAgg191
  z63 := Try.sizeOf191
  v63 := Try.zeroValue191
  t64 := Try.underlying30
  a64 := Try.isAgg30
  z64 := Try.sizeOf30
  v64 := Try.zeroValue30 }
end Go.Proofs.Ytakgjjbmniilhaa
set_option maxRecDepth 100000
set_option linter.unusedVariables false
set_option linter.unusedSimpArgs false
namespace Go.Proofs.Ytakgjjbmniilhaa
open Go Go.Vm

def intOf : V → Int
  | .int _ k => k
  | _ => 0
def keysSorted (es : Ents) : List Int := sortI (es.map fun e => intOf e.1)
theorem sortI_perm {a b : List Int} (h : a.Perm b) : sortI a = sortI b := by
  refine List.Perm.eq_of_pairwise (le := fun x y => x ≤ y) (fun x y _ _ h1 h2 => Int.le_antisymm h1 h2) ?_ ?_ (((List.mergeSort_perm a _).trans h).trans (List.mergeSort_perm b _).symm)
  · exact (List.pairwise_mergeSort (le := fun x y => decide (x ≤ y)) (fun a b c h1 h2 => by simp at *; omega) (fun a b => by simp; omega) a).imp fun h => by simpa using h
  · exact (List.pairwise_mergeSort (le := fun x y => decide (x ≤ y)) (fun a b c h1 h2 => by simp at *; omega) (fun a b => by simp; omega) b).imp fun h => by simpa using h
def isUnit : Option (V × St) → Bool
  | some (.tuple [], _) => true
  | _ => false
theorem isUnit_some {x : Option (V × St)} (h : isUnit x = true) : ∃ s, x = some (undefV, s) := by
  unfold isUnit at h
  split at h
  · exact ⟨_, rfl⟩
  · cases h
theorem sort_none_run : isUnit (evInv Try.prog 1000 40 (.fn 98) [.slice none 0 0 true] s0) = true := by kernel_rfl
theorem sort_none (h : Heap) (R W : Set') : SF Try.prog 98 [.slice none 0 0 true] h R W fun v h' => v = undefV ∧ h' = h := by
  obtain ⟨s, hs⟩ := isUnit_some sort_none_run
  exact ⟨undefV, h, ⟨rfl, rfl⟩, ((evInv_good hm 1000 40).fn _ _ _ _ _ hs).plain rfl rfl h R W⟩

def SortedAt (h : Heap) (es : Ents) (v : V) (g : Heap) : Prop :=
  (es = [] ∧ v = .slice none 0 0 true) ∨ (es ≠ [] ∧ ∃ bj c, v = .slice (some (bj, 0)) es.length es.length false ∧ h.n ≤ bj ∧ bj < g.n ∧ g.get bj = some (.cells c 3) ∧ c.ro = false ∧ c.size = es.length ∧ ∀ i (hi : i < (keysSorted es).length), c.get i = .int .i64 (keysSorted es)[i])
set_option maxHeartbeats 4000000 in
theorem sorted_dem {h : Heap} {kb r : Nat} {es : Ents} {ck : Nat} {R W : Set'} (hk : KeysAt h kb r es ck) (hRk : R kb) (hRr : R r) :
    SF ⟨Try.prog, true⟩ 86 [.func 99 [] [.ptr (some (kb, 0))]] h R W fun v g => SortedAt h es v g := by
  refine SF.go hm Try.func86 ir86_eq ?_
  simp -implicitDefEqProofs (disch := (first | omega | (simp -implicitDefEqProofs only [szs, ne_eq] <;> omega) | fail)) only [go_sem, seval, ↓reduceIte, reduceCtorEq, ir86]
  refine GCall.of (collect_dem hk (.inr hRk) (.inr hRr)) ?_
  rintro v g ⟨l, hp, hold, hcase⟩
  rcases hcase with ⟨hl, rfl⟩ | ⟨hnl, bj, rfl, hbj, hd⟩
  · have hes : es = [] := by
      have : l = [] := by simpa using hl
      subst this
      exact (List.nil_perm.1 hp)
    simp -implicitDefEqProofs (disch := (first | omega | (simp -implicitDefEqProofs only [szs, ne_eq] <;> omega) | fail)) only [go_sem, seval, ↓reduceIte, reduceCtorEq]
    refine GCall.of (sort_none _ _ _).any ?_
    rintro v h' ⟨rfl, rfl⟩
    simp -implicitDefEqProofs (disch := (first | omega | (simp -implicitDefEqProofs only [szs, ne_eq] <;> omega) | fail)) only [go_sem, seval, ↓reduceIte, reduceCtorEq]
    exact .inl ⟨hes, rfl⟩
  · have hlt := Heap.lt_of_get hd
    have hfew := hk.few
    have hlen := hp.length_eq
    have hz : ∀ i (hi : i < (l.map fun e => intOf e.1).length), (Blk.of (l.map (·.1))).get i = .int .i64 (l.map fun e => intOf e.1)[i] := by
      intro i hi
      have hi' : i < l.length := by simpa using hi
      rw [w_of_get (by simpa using hi')]
      obtain ⟨key, hkey⟩ := hk.ints l[i] (hp.mem_iff.1 (List.getElem_mem hi'))
      simp [List.getD, hi', hkey, intOf]
    have hso := sort_ok laysSort hd (l.map fun e => intOf e.1) (by simp [w_of_size]) hz rfl (by simp; omega) l.length false
    simp only [List.length_map] at hso
    have hperm : (l.map fun e => intOf e.1).Perm (es.map fun e => intOf e.1) := hp.map _
    simp -implicitDefEqProofs (disch := (first | omega | (simp -implicitDefEqProofs only [szs, ne_eq] <;> omega) | fail)) only [go_sem, seval, ↓reduceIte, reduceCtorEq, List.length_map]
    refine GCall.of ((SF.any (M := ⟨Try.prog, true⟩) hso).foot (fun x hx => ?_) (fun x hx => ?_)) ?_
    · subst hx; exact .inl hbj
    · subst hx; exact .inl hbj
    rintro v h' ⟨rfl, rfl⟩
    simp -implicitDefEqProofs (disch := (first | omega | (simp -implicitDefEqProofs only [szs, ne_eq] <;> omega) | fail)) only [go_sem, seval, ↓reduceIte, reduceCtorEq]
    have hne : es ≠ [] := fun e => by
      subst e
      have : l = [] := by simpa using hlen
      subst this
      exact hnl rfl
    refine .inr ⟨hne, bj, _, by rw [hlen], hbj, by simpa using hlt, w_set_eq hlt rfl _, ?_, ?_, fun i hi => ?_⟩
    · rw [Blk.ro_puts]; rfl
    · simp [Blk.size_puts, w_of_size, hlen]
    · have hks : keysSorted es = sortI (l.map fun e => intOf e.1) := (sortI_perm hperm).symm
      have hi' : i < (sortI (l.map fun e => intOf e.1)).length := by rw [← hks]; exact hi
      rw [Blk.get_puts, if_pos (by simpa using hi')]
      simp [List.getD, hi', hks]
theorem keysSorted_length (es : Ents) : (keysSorted es).length = es.length := by simp [keysSorted, sortI_length]
def sortedV (h : Heap) (es : Ents) : V × Heap := match es with
  | [] => (.slice none 0 0 true, h)
  | _ => (.slice (some (h.n, 0)) es.length es.length false, h.push (.cells (Blk.of ((keysSorted es).map (.int .i64))) 3))
theorem KeysAt.same {h h' : Heap} {kb r : Nat} {es : Ents} {ck : Nat} (hk : KeysAt h kb r es ck) (hg : ∀ b, b < h.n → h'.get b = h.get b) : KeysAt h' kb r es ck := by
  obtain ⟨c, h1, h2, h3⟩ := hk.k
  exact ⟨⟨c, by rw [hg _ (Heap.lt_of_get h1)]; exact h1, h2, h3⟩, by rw [hg _ (Heap.lt_of_get hk.m)]; exact hk.m, hk.ok, hk.ints, hk.few⟩
theorem sorted_ok {h : Heap} {kb r : Nat} {es : Ents} {ck : Nat} (hk : KeysAt h kb r es ck) :
    FnOk Try.prog 86 [.func 99 [] [.ptr (some (kb, 0))]] h (sortedV h es).1 (sortedV h es).2 (fun b => b = kb ∨ b = r) (fun _ => False) := by
  obtain ⟨c, h1, h2, h3⟩ := hk.k
  have hlt1 := Heap.lt_of_get h1
  have hlt2 := Heap.lt_of_get hk.m
  cases es with
  | nil =>
    refine FnOk.of_dem (Q := fun g v g' => v = .slice none 0 0 true) (Nat.le_refl _) (fun _ _ => rfl) (fun b hb => by rcases hb with rfl | rfl <;> assumption) (fun g hg hgo => ?_) fun g v h' hg hv => ?_
    · refine FnD.mono (sorted_dem (hk.same hgo) (.inl rfl) (.inr rfl)) fun v g' hs _ => ?_
      rcases hs with ⟨_, hv⟩ | ⟨hne, _⟩
      · exact hv
      · exact absurd rfl hne
    · subst hv
      exact ⟨id, fun _ _ => rfl, fun b h1 h2 => by simp [sortedV] at h2; omega, fun b c h1 h2 => by simp [sortedV] at h2; omega, trivial, rfl, fun b o h1 h2 => by simp [sortedV] at h2; omega⟩
  | cons e es =>
    generalize hes : e :: es = es' at *
    have hne : es' ≠ [] := by rw [← hes]; simp
    have hsv : sortedV h es' = (.slice (some (h.n, 0)) es'.length es'.length false, h.push (.cells (Blk.of ((keysSorted es').map (.int .i64))) 3)) := by rw [← hes]; rfl
    rw [hsv]
    refine FnOk.of_dem (Q := fun g v g' => SortedAt g es' v g') (by simp) (fun b hb => w_push_ne (by omega) _) (fun b hb => by rcases hb with rfl | rfl <;> assumption) (fun g hg hgo => ?_) fun g v h' hg hs => ?_
    · exact sorted_dem (hk.same hgo) (.inl rfl) (.inr rfl)
    · rcases hs with ⟨h0, _⟩ | ⟨_, bj, cj, rfl, hbj, hlt, hget, hro, hsz, hcells⟩
      · exact absurd h0 hne
      · simp only [Heap.n_push] at hg
        refine ⟨fun b => if b < h.n then b else bj, fun b hb => if_pos hb, fun b h1 h2 => ?_, fun b c h1 h2 h3 h4 _ => ?_, by simp [V.names], by simp [V.rn], fun b o h1 h2 ho hd => ?_⟩
        · show g.n ≤ if b < h.n then b else bj
          rw [if_neg (by omega)]; exact hbj
        · simp at h2 h4; omega
        · simp at h2
          have hb : b = h.n := by omega
          subst hb
          rw [w_push_eq rfl] at ho; cases ho
          have e0 : (fun b => if b < h.n then b else bj) h.n = bj := if_neg (Nat.lt_irrefl _)
          rw [e0]
          refine ⟨hlt, _, hget, rfl, rfl, hro.symm, by rw [w_of_size, hsz]; simp [keysSorted_length], fun i hi => ?_⟩
          have hi' : i < (keysSorted es').length := by simpa [w_of_size] using hi
          have hval : (Blk.of ((keysSorted es').map (V.int .i64))).get i = .int .i64 (keysSorted es')[i] := by
            rw [w_of_get (by simpa using hi')]; simp [List.getD, hi']
          rw [hval, hcells i hi']
          exact ⟨trivial, rfl⟩
end Go.Proofs.Ytakgjjbmniilhaa
set_option maxRecDepth 100000
set_option linter.unusedVariables false
set_option linter.unusedSimpArgs false
namespace Go.Proofs.Ytakgjjbmniilhaa
open Go Go.Vm
attribute [-go_sem] sz_101
theorem asc_ext : ∀ {a b : List Int}, a.Pairwise (· < ·) → b.Pairwise (· < ·) → (∀ x, x ∈ a ↔ x ∈ b) → a = b
  | [], [], _, _, _ => rfl
  | [], y :: b, _, _, h => by have := (h y).2 (by simp); cases this
  | x :: a, [], _, _, h => by have := (h x).1 (by simp); cases this
  | x :: a, y :: b, ha, hb, h => by
    rw [List.pairwise_cons] at ha hb
    have hxy : x = y := by
      have h1 := (h x).1 (by simp)
      have h2 := (h y).2 (by simp)
      rcases List.mem_cons.1 h1 with e | h1
      · exact e
      · rcases List.mem_cons.1 h2 with e | h2
        · exact e.symm
        · have := ha.1 _ h2; have := hb.1 _ h1; omega
    subst hxy
    rw [asc_ext ha.2 hb.2 fun z => ?_]
    constructor
    · intro hz
      rcases List.mem_cons.1 ((h z).1 (by simp [hz])) with e | e
      · have := ha.1 _ hz; omega
      · exact e
    · intro hz
      rcases List.mem_cons.1 ((h z).2 (by simp [hz])) with e | e
      · have := hb.1 _ hz; omega
      · exact e
def DS.dirty (D : DS) : List Nat := (List.range D.n).filter fun s => !(D.pe s).isEmpty
theorem mem_dirty {D : DS} {s : Nat} : s ∈ D.dirty ↔ s < D.n ∧ D.pe s ≠ [] := by
  simp [DS.dirty]
theorem keys_dirty {h : Heap} {bd : Nat} {L : DL} {D : DS} {es : Ents} {ck : Nat} (hp : PendAt h bd L D es) (hi : IMap es ck) (ho : ∀ s, D.n ≤ s → D.pe s = []) : keysSorted es = D.dirty.map fun (s : Nat) => (s : Int) := by
  have hkk : (es.map fun e => intOf e.1) = es.map fun e => keyI e.1 := List.map_congr_left fun e he => by
    obtain ⟨k, hk⟩ := hi.ints e he
    rw [hk]; rfl
  have hperm : (keysSorted es).Perm (es.map fun e => keyI e.1) := by
    unfold keysSorted
    rw [← hkk]
    exact List.mergeSort_perm _ _
  apply asc_ext
  · have h1 : (keysSorted es).Pairwise (fun x y => x ≤ y) := (List.pairwise_mergeSort (le := fun x y => decide (x ≤ y)) (fun a b c h1 h2 => by simp at *; omega) (fun a b => by simp; omega) _).imp fun h => by simpa using h
    have h2 : (keysSorted es).Nodup := hperm.nodup_iff.2 hi.keys
    exact (h1.and h2).imp fun ⟨a, b⟩ => by omega
  · rw [List.pairwise_map]
    exact (List.Pairwise.filter _ List.pairwise_lt_range).imp fun h => by omega
  · intro x
    rw [hperm.mem_iff]
    constructor
    · intro hx
      obtain ⟨e, he, rfl⟩ := List.mem_map.1 hx
      obtain ⟨y, e1, e2, _⟩ := hp.mem hi he
      rw [e1]
      refine List.mem_map.2 ⟨y, mem_dirty.2 ⟨?_, e2⟩, rfl⟩
      exact Nat.lt_of_not_le fun h => e2 (ho y h)
    · intro hx
      obtain ⟨y, hy, rfl⟩ := List.mem_map.1 hx
      exact (hp.key hi y).2 (mem_dirty.1 hy).2
theorem dirty_len (D : DS) : D.dirty.length ≤ D.n := by
  unfold DS.dirty
  have := List.length_filter_le (fun s => !(D.pe s).isEmpty) (List.range D.n)
  simpa using this
theorem keys_len {h : Heap} {bd : Nat} {L : DL} {D : DS} {es : Ents} {ck : Nat} (hp : PendAt h bd L D es) (hi : IMap es ck) (ho : ∀ s, D.n ≤ s → D.pe s = []) : es.length = D.dirty.length := by
  have := keys_dirty hp hi ho
  rw [← keysSorted_length es, this, List.length_map]
theorem keysf_ok {h : Heap} {R W : Set'} {m : Nat} : SF Try.prog 87 [.map (some m)] h R W fun v h' => v = .func 99 [] [.ptr (some (h.n, 0))] ∧ h' = h.push (.cells (Blk.of [.map (some m)]) 78) := by
  refine SF.go hm Try.func87 ir87_eq ?_
  simp -implicitDefEqProofs (disch := (first | omega | (simp -implicitDefEqProofs only [szs, ne_eq] <;> omega) | fail)) only [go_sem, seval, ↓reduceIte, reduceCtorEq, ir87]
def Keep3 (n : Nat) (g g' : Heap) : Prop := ∀ b c, n ≤ b → g.get b = some (.cells c 3) → g'.get b = g.get b
set_option maxHeartbeats 1000000 in
theorem seqDirty {h : Heap} {bd b1 l : Nat} {L : DL} {D : DS} {W : Set'} (I : Nat → Heap → Prop) (J : Heap → Prop) (hd : DiskAt h bd L D) (h1 : h.get b1 = some (.cells (Blk.of [.ptr (some (bd, 0))]) 24)) (hI0 : I 0 h) (hx : ∀ p g, I p g → DiskAt g bd L D ∧ g.get b1 = h.get b1 ∧ h.n ≤ g.n)
    (hkeep : ∀ p g g', I p g → g.n ≤ g'.n → (∀ b, b < g.n → g'.get b = g.get b) → I p g') (hW : ∀ b, W b → b < h.n)
    (hround : ∀ (p s : Nat) g, D.dirty[p]? = some s → I p g → SY ⟨Try.prog, true⟩ l [.int .i64 s, .int .i64 (D.pe s).length] g (fun _ => True) (fun b => h.n ≤ b ∨ W b) (fun v g' => (v = .bool true ∧ I (p + 1) g' ∨ v = .bool false ∧ J g') ∧ Keep3 h.n g g')) :
    SF ⟨Try.prog, true⟩ 85 [.yield l, .ptr (some (b1, 0))] h (fun _ => True) W fun _ g => I D.dirty.length g ∨ J g := by
  have hp := hd.pos
  have hb1 := Heap.lt_of_get h1
  obtain ⟨c, d1, d2, d3, d4, d5, d6⟩ := hd.d
  obtain ⟨es, ck, m1, m2, m3⟩ := hd.m
  have hkd := keys_dirty m3 m2 hd.out
  have hkl := keys_len m3 m2 hd.out
  have hdl := dirty_len D
  have hmb := Heap.lt_of_get m1
  refine SF.go hm Try.func85 ir85_eq ?_
  simp -implicitDefEqProofs (disch := (first | omega | (simp -implicitDefEqProofs only [szs, ne_eq] <;> omega) | fail)) only [go_sem, seval, ↓reduceIte, reduceCtorEq, ir85, h1]
  refine GCall.of (there_ok hd trivial).any ?_
  rintro v h' ⟨rfl, rfl⟩
  simp -implicitDefEqProofs (disch := (first | omega | (simp -implicitDefEqProofs only [szs, ne_eq] <;> omega) | fail)) only [go_sem, seval, ↓reduceIte, reduceCtorEq, h1, d1, d2, d5]
  refine GCall.of keysf_ok.any ?_
  rintro v h2 ⟨rfl, rfl⟩
  have hK : KeysAt (h'.push (.cells (Blk.of [.map (some L.mb)]) 78)) h'.n L.mb es ck := ⟨⟨_, by simp -implicitDefEqProofs (disch := (first | omega | (simp -implicitDefEqProofs only [szs, ne_eq] <;> omega) | fail)) only [go_sem, seval, ↓reduceIte, reduceCtorEq]; rfl, rfl, rfl⟩, by rw [w_push_ne (by omega)]; exact m1, m2.ok, m2.ints, by omega⟩
  simp -implicitDefEqProofs (disch := (first | omega | (simp -implicitDefEqProofs only [szs, ne_eq] <;> omega) | fail)) only [go_sem, seval, ↓reduceIte, reduceCtorEq]
  generalize hhg : h'.push (.cells (Blk.of [.map (some L.mb)]) 78) = hh at *
  have hhn : hh.n = h'.n + 1 := by rw [← hhg]; simp
  have hho : ∀ b, b < h'.n → hh.get b = h'.get b := fun b hb => by rw [← hhg]; exact w_push_ne (by omega) _
  have hs : SF Try.prog 86 [.func 99 [] [.ptr (some (h'.n, 0))]] hh (fun b => b = h'.n ∨ b = L.mb) (fun _ => False) (fun v g => v = (sortedV hh es).1 ∧ g = (sortedV hh es).2) := ⟨_, _, ⟨rfl, rfl⟩, sorted_ok hK⟩
  refine GCall.of (((SF.any (M := ⟨Try.prog, true⟩) hs).foot (fun _ h => trivial) (fun _ h => h.elim))) ?_
  rintro v g0 ⟨hv0, hg0⟩
  obtain ⟨hlr, hgn0, hold0⟩ : LR g0 (fun b => h'.n ≤ b ∧ ∃ c, g0.get b = some (.cells c 3)) v (D.dirty.map fun (s : Nat) => V.int .i64 s) ∧ hh.n ≤ g0.n ∧ ∀ b, b < hh.n → g0.get b = hh.get b := by
    have hkm : (keysSorted es).map (V.int .i64) = D.dirty.map fun (s : Nat) => V.int .i64 s := by rw [hkd, List.map_map]; rfl
    cases hes : es with
    | nil =>
      rw [hes] at hv0 hg0 hkl
      have hd0 : D.dirty = [] := List.length_eq_zero_iff.1 hkl.symm
      rw [hd0]
      subst hv0 hg0
      exact ⟨.inl ⟨rfl, .inl rfl⟩, Nat.le_refl _, fun _ _ => rfl⟩
    | cons e r =>
      have hsv : sortedV hh es = (.slice (some (hh.n, 0)) es.length es.length false, hh.push (.cells (Blk.of ((keysSorted es).map (.int .i64))) 3)) := by rw [hes]; rfl
      rw [hsv] at hv0 hg0
      subst hv0 hg0
      have hl2 : (D.dirty.map fun (s : Nat) => V.int .i64 s).length = es.length := by rw [List.length_map, hkl]
      refine ⟨.inr ⟨hh.n, 0, es.length, false, _, 3, by rw [hl2], ⟨by omega, _, w_push_eq rfl _⟩, w_push_eq rfl _, by rw [hkm, w_of_size, Nat.zero_add]; exact Nat.le_refl _, by rw [hkm]; exact gets_all _ rfl⟩, by simp, fun b hb => w_push_ne (by omega) _⟩
  have hlen := hlr.lenV Try.underlying66
  rw [List.length_map] at hlen
  simp -implicitDefEqProofs (disch := (first | omega | (simp -implicitDefEqProofs only [szs, ne_eq] <;> omega) | fail)) only [go_sem, seval, ↓reduceIte, reduceCtorEq, ↓hlen]
  have hI1 : I 0 g0 := hkeep 0 _ _ hI0 (by omega) fun b hb => by rw [hold0 b (by omega), hho b hb]
  refine GLoop.inv hm (fun k f g => f.mks = [] ∧ f.tm.n = 31 ∧ f.tm.get 0 = some (.yield l) ∧ f.tm.get 1 = some (.ptr (some (b1, 0))) ∧ f.tm.get 13 = some v ∧ f.tm.get 14 = some (.int .i64 D.dirty.length) ∧ ∃ p : Nat, p + k = D.dirty.length ∧ f.tm.get 15 = some (.int .i64 p) ∧ I p g ∧ LR g (fun b => h'.n ≤ b ∧ ∃ c, g.get b = some (.cells c 3)) v (D.dirty.map fun (s : Nat) => V.int .i64 s)) D.dirty.length ?_ ?_
  · exact ⟨rfl, rfl, by simp -implicitDefEqProofs (disch := (first | omega | (simp -implicitDefEqProofs only [szs, ne_eq] <;> omega) | fail)) only [go_sem, seval, ↓reduceIte, reduceCtorEq], by simp -implicitDefEqProofs (disch := (first | omega | (simp -implicitDefEqProofs only [szs, ne_eq] <;> omega) | fail)) only [go_sem, seval, ↓reduceIte, reduceCtorEq], by simp -implicitDefEqProofs (disch := (first | omega | (simp -implicitDefEqProofs only [szs, ne_eq] <;> omega) | fail)) only [go_sem, seval, ↓reduceIte, reduceCtorEq], by simp -implicitDefEqProofs (disch := (first | omega | (simp -implicitDefEqProofs only [szs, ne_eq] <;> omega) | fail)) only [go_sem, seval, ↓reduceIte, reduceCtorEq], 0, by omega, by simp -implicitDefEqProofs (disch := (first | omega | (simp -implicitDefEqProofs only [szs, ne_eq] <;> omega) | fail)) only [go_sem, seval, ↓reduceIte, reduceCtorEq], hI1, hlr⟩
  rintro k ⟨⟨n', tr⟩, mks⟩ g ⟨hmk, hn', t0, t1, t13, t14, p, hpk, t15, hI, hlg⟩
  simp only [Tm.get_mk] at hmk hn' t0 t1 t13 t14 t15
  subst hmk hn'
  by_cases hpc : p < D.dirty.length
  · obtain ⟨hdg, hgb, hgn⟩ := hx p g hI
    obtain ⟨b, o, cap, ex, cc, ce, rfl, hb0, hb, hbs, hbg⟩ := hlg.get (i := p) (by simpa using hpc)
    rw [List.length_map] at hbs
    have hsp : D.dirty[p]? = some D.dirty[p] := List.getElem?_eq_getElem hpc
    have hmd := mem_dirty.1 (List.getElem_mem hpc)
    rw [List.getD_eq_getElem?_getD, List.getElem?_map, hsp, Option.map_some, Option.getD_some] at hbg
    obtain ⟨c2, e1, e2, e3, e4, e5, e6⟩ := hdg.d
    have hlk := hdg.look D.dirty[p]
    rw [if_neg hmd.2] at hlk
    rw [h1] at hgb
    simp -implicitDefEqProofs (disch := (first | omega | (simp -implicitDefEqProofs only [szs, ne_eq] <;> omega) | fail)) only [go_sem, seval, ↓reduceIte, reduceCtorEq, ir85_l0, t0, t1, t13, t14, t15, hb, hbs, hbg, hgb, e1, e2, e5, hlk, List.length_map]
    refine GYield.of ((hround p _ g hsp hI).foot (fun _ h => h) (fun _ h => h)) ?_
    rintro v g2 ⟨hq, hk2⟩
    rcases hq with ⟨rfl, hI2⟩ | ⟨rfl, hJ⟩
    · simp -implicitDefEqProofs (disch := (first | omega | (simp -implicitDefEqProofs only [szs, ne_eq] <;> omega) | fail)) only [go_sem, seval, ↓reduceIte, reduceCtorEq, t0, t1, t13, t14, t15]
      have hlg2 := (hlg.same (h' := g2) fun b hb hlt => by obtain ⟨h5, c5, h6⟩ := hb; exact hk2 b c5 h5 h6).mono (R' := fun b => h'.n ≤ b ∧ ∃ c, g2.get b = some (.cells c 3)) fun b _ hb => ⟨hb.1, by obtain ⟨h5, c5, h6⟩ := hb; exact ⟨c5, (hk2 b c5 h5 h6).trans h6⟩⟩
      rw [List.length_map] at hlg2 ⊢
      exact ⟨k - 1, by omega, rfl, p + 1, by omega, rfl, hI2, hlg2⟩
    · simp -implicitDefEqProofs (disch := (first | omega | (simp -implicitDefEqProofs only [szs, ne_eq] <;> omega) | fail)) only [go_sem, seval, ↓reduceIte, reduceCtorEq, t0, t1, t13, t14, t15]
      exact .inr hJ
  · obtain rfl : p = D.dirty.length := by omega
    simp -implicitDefEqProofs (disch := (first | omega | (simp -implicitDefEqProofs only [szs, ne_eq] <;> omega) | fail)) only [go_sem, seval, ↓reduceIte, reduceCtorEq, ir85_l0, t0, t1, t13, t14, t15]
    exact .inl hI
end Go.Proofs.Ytakgjjbmniilhaa
