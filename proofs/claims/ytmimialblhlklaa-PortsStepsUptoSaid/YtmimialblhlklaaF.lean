/- Ports: Open: the keys of one account collected, whatever order the map hands them out in, and sorted. -/
import Derived.Test.YtmimialblhlklaaE2
import Derived.Test.YtmimialblhlklaaLay
import Derived.Test.YtmimialblhlklaaV4
import Derived.Test.YtmimialblhlklaaV2
set_option linter.unusedVariables false
set_option maxRecDepth 100000
namespace Go.Proofs.Ytmimialblhlklaa
open Go Go.Vm
def colO (a : Int) (l : Ents) : List Int := (l.filter fun e => decide ((keyP e.1).1 = a)).map fun e => (keyP e.1).2
theorem colO_snoc (a : Int) (l : Ents) (e : V × V × Nat) : colO a (l ++ [e]) = if (keyP e.1).1 = a then colO a l ++ [(keyP e.1).2] else colO a l := by
 unfold colO
 rw [List.filter_append]
 by_cases h : (keyP e.1).1 = a
 ·rw [if_pos h]
  have e1 : [e].filter (fun e => decide ((keyP e.1).1 = a)) = [e] := List.filter_cons_of_pos (p := fun e : V × V × Nat => decide ((keyP e.1).1 = a)) (decide_eq_true h)
  rw [e1, List.map_append]; rfl
 ·rw [if_neg h]
  have e1 : [e].filter (fun e => decide ((keyP e.1).1 = a)) = [] := List.filter_cons_of_neg (p := fun e : V × V × Nat => decide ((keyP e.1).1 = a)) (fun e => h (of_decide_eq_true e))
  rw [e1, List.append_nil]
theorem colO_le (a : Int) (l : Ents) : (colO a l).length ≤ l.length := by
 unfold colO
 rw [List.length_map]
 exact List.length_filter_le _ _
theorem Own.toS {n0 : Nat} {h : Heap} {v : V} {l : List V} {e : TypeId} (ho : Own n0 h v l e) : OwnS 1 n0 h v l.length l e := by
 refine ⟨by omega, ?_⟩
 rcases ho with ⟨rfl, h1⟩ | ⟨b, x, c, h0, rfl, h1, hb, hs, hr, hg⟩
 ·exact .inl ⟨rfl, h1⟩
 ·exact .inr ⟨b, x, c, fun h => h0 (List.length_eq_zero_iff.1 h), rfl, h1, hb, by omega, hr, by rw [Nat.mul_one]; exact hg⟩
theorem Own.ofS {n0 n : Nat} {h : Heap} {v : V} {l : List V} {e : TypeId} (ho : OwnS 1 n0 h v n l e) : Own n0 h v l e := by
 obtain ⟨hl, ho⟩ := ho
 rw [Nat.mul_one] at hl
 subst hl
 rcases ho with ⟨h0, h1⟩ | ⟨b, x, c, h0, rfl, h1, hb, hs, hr, hg⟩
 ·exact .inl ⟨List.length_eq_zero_iff.1 h0, h1⟩
 ·exact .inr ⟨b, x, c, fun h => h0 (by rw [h]; rfl), rfl, h1, hb, by omega, hr, by rw [Nat.mul_one] at hg; exact hg⟩
theorem app_own_r {n0 : Nat} {h : Heap} {v x : V} {l news : List V} {rs : List Nat} {e bytes : Nat} (ho : Own n0 h v l e) (hn : n0 ≤ h.n) (hx : lenOfV x = some news.length) (hf : firstV h 1 news.length x = some (news, rs)) (h1 : allOne news = true) (h0 : 0 < news.length) (hb : (l.length + news.length) * bytes ≤ 140737488355328) (hc : l.length + news.length ≤ 9223372036854775807) : ∃ v' h' r w, appE e 1 bytes v x h = some ⟨v', h', r, w⟩ ∧ Own n0 h' v' (l ++ news) e ∧ h.n ≤ h'.n ∧ (∀ b, b < n0 → h'.get b = h.get b) ∧ (∀ b ∈ w, n0 ≤ b) ∧ (∀ b, b < h.n → b ∉ w → h'.get b = h.get b) ∧ ∀ b ∈ r, b ∈ rs ∨ n0 ≤ b := by
 obtain ⟨v', h', r, w, a1, a2, a3, a4, a5, a6, _, a8⟩ := app_ownS (Own.toS ho) hn hx hf (by omega) h1 h0 hb hc
 exact ⟨v', h', r, w, a1, Own.ofS a2, a3, a4, a5, a6, a8⟩
def Opn (s : V) : Prop := s = .slice none 0 0 true ∨ ∃ b l c, s = .slice (some b) l c false
theorem appOut_opn {h : Heap} {t : TypeId} {base : Option (Nat × Nat)} {sc size need : Nat} {ex : Bool} {olds news : List V} {rs : List Nat} {p : Pr} (e : appendOut h t base sc ex size need olds news rs = some p) : Opn p.v := by
 unfold appendOut at e
 split at e
 ·split at e
  ·split at e
   ·split at e
    ·split at e
     ·split at e
      ·cases e; exact .inr ⟨_, _, _, rfl⟩
      ·cases e
     ·cases e
    ·cases e
   ·cases e
  ·cases e
 ·cases e; exact .inr ⟨_, _, _, rfl⟩
theorem appIn_opn {h : Heap} {b : Nat × Nat} {sl sc size n : Nat} {news : List V} {rs : List Nat} {p : Pr} (e : appendIn h (some b) sl sc false size n news rs = some p) : Opn p.v := by
 unfold appendIn at e
 split at e
 ·rename_i hb; cases hb
 ·rename_i hb
  cases hb
  split at e
  ·split at e
   ·split at e
    ·split at e
     ·cases e; exact .inr ⟨_, _, _, rfl⟩
     ·cases e
    ·cases e
   ·cases e
  ·cases e
theorem appE_opn {t size bytes m : Nat} {v x : V} {h : Heap} {p : Pr} (e : appE t size bytes v x h = some p) (hv : Opn v) (hx : lenOfV x = some (m + 1)) : Opn p.v := by
 rcases hv with rfl | ⟨b, l, c, rfl⟩
 ·unfold appE at e
  rw [hx] at e
  simp only [] at e
  split at e
  ·split at e
   ·split at e
    ·rename_i hb; simp at hb
    ·split at e
     ·split at e
      ·split at e
       ·split at e
        ·exact appOut_opn e
        ·cases e
       ·cases e
      ·cases e
     ·cases e
   ·cases e
  ·cases e
 ·unfold appE at e
  rw [hx] at e
  simp only [] at e
  split at e
  ·split at e
   ·split at e
    ·exact appIn_opn e
    ·split at e
     ·split at e
      ·split at e
       ·split at e
        ·exact appOut_opn e
        ·cases e
       ·cases e
      ·cases e
     ·cases e
   ·cases e
  ·cases e
structure OColl (h0 : Heap) (tr : Tr V) (a : Int) (l : List Int) (g : Heap) : Prop where
 n : h0.n + 5 ≤ g.n
 old : ∀ x, x < h0.n → g.get x = h0.get x
 acc : g.get h0.n = some (.cells (Blk.of [.int .i64 a]) 3)
 mark : g.get (h0.n + 3) = some (.deferred true)
 loop : g.get (h0.n + 4) = some (.loop ⟨.ready, none, ⟨28, tr⟩, [15], (rc34 0).1, (rc34 0).2, h0.n + 3⟩)
 data : ∃ c s, g.get (h0.n + 1) = some (.cells c 30) ∧ c.ro = false ∧ c.size = 1 ∧ c.get 0 = s ∧ Own (h0.n + 6) g s (l.map (.int .i64)) 3 ∧ Opn s
set_option maxHeartbeats 4000000 in
theorem oround_ok {h0 g : Heap} {tr : Tr V} {a : Int} {l : List Int} {R W : Set'} (hc : OColl h0 tr a l g) (t3 : tr.get 3 = some (.ptr (some (h0.n, 0)))) (t5 : tr.get 5 = some (.ptr (some (h0.n + 1, 0)))) (hn : h0.n + 6 ≤ g.n) (hR : ∀ x, h0.n ≤ x → R x) (hW : ∀ x, h0.n ≤ x → W x) (hl : l.length ≤ 1000000) (k1 k2 : Int) :
  SY ⟨Try.prog, true⟩ (h0.n + 4) [.agg [.int .i64 k1, .int .i64 k2]] g R W fun v g' => v = .bool true ∧ OColl h0 tr a (if k1 = a then l ++ [k2] else l) g' ∧ g.n ≤ g'.n ∧ (∀ x, x < h0.n + 6 → x ≠ h0.n + 1 → x ≠ h0.n + 4 → g'.get x = g.get x) := by
 refine SY.go hm hc.loop (hR _ (by omega)) (hW _ (by omega)) rfl ir34_a0_eq ir34_b0_eq ?_
 have hn0 := hc.n
 obtain ⟨c, s, hb, hro, hsz, hc0, ho, hopn⟩ := hc.data
 have hR0 := hR h0.n (by omega)
 have hR1 := hR (h0.n + 1) (by omega)
 have hW1 := hW (h0.n + 1) (by omega)
 have hRg := hR g.n (by omega)
 have hWg := hW g.n (by omega)
 simp -implicitDefEqProofs (disch := (first | omega | (simp -implicitDefEqProofs only [szs, ne_eq] <;> omega) | fail)) only [go_sem, seval, ↓reduceIte, ir34_a0, hWg]
 refine ⟨_, hc.loop, rfl, ?_⟩
 obtain ⟨lp, hlp⟩ : ∃ lp : O, lp = O.loop { state := LoopState.busy, pending := none, tmps := ⟨28, tr⟩, params := [15], assign := (rc34 0).1, body := (rc34 0).2, defers := h0.n + 3 } := ⟨_, rfl⟩
 have hG : ((g.push (O.cells (Blk.of [V.int .i64 0, V.int .i64 0]) 75)).set g.n (O.cells (((Blk.of [V.int .i64 0, V.int .i64 0]).set 0 (V.int .i64 k1)).set 1 (V.int .i64 k2)) 75)).get g.n = some (O.cells (((Blk.of [V.int .i64 0, V.int .i64 0]).set 0 (V.int .i64 k1)).set 1 (V.int .i64 k2)) 75) := w_set_eq (by simp) rfl _
 simp only []
 rw [← hlp]
 obtain ⟨G, hGd⟩ : ∃ G, G = (((g.push (O.cells (Blk.of [V.int .i64 0, V.int .i64 0]) 75)).set g.n (O.cells (((Blk.of [V.int .i64 0, V.int .i64 0]).set 0 (V.int .i64 k1)).set 1 (V.int .i64 k2)) 75)).set (h0.n + 4) lp) := ⟨_, rfl⟩
 rw [← hGd]
 have Gn : G.n = g.n + 1 := by rw [hGd]; simp
 have Gg : ∀ x, x < g.n → x ≠ h0.n + 4 → G.get x = g.get x := fun x hx hne => by rw [hGd, w_set_ne (by simp; omega) hne, w_set_ne (by simp) (by omega), w_push_ne (by omega)]
 have Gw : G.get g.n = some (O.cells (((Blk.of [V.int .i64 0, V.int .i64 0]).set 0 (V.int .i64 k1)).set 1 (V.int .i64 k2)) 75) := by rw [hGd, w_set_ne (by simp; omega) (by omega)]; exact hG
 have Gl : G.get (h0.n + 4) = some lp := by rw [hGd]; exact w_set_eq (by simp; omega) rfl _
 clear hGd hG
 have x0 := (Gg h0.n (by omega) (by omega)).trans hc.acc
 have x1 := (Gg (h0.n + 1) (by omega) (by omega)).trans hb
 have hoG : Own (h0.n + 6) G s (l.map (.int .i64)) 3 := ho.keep fun b c' hb' => by
  have hne : b ≠ h0.n + 4 := fun e => by rw [e, hc.loop] at hb'; cases hb'
  rw [Gg b (Heap.lt_of_get hb') hne]; exact hb'
 by_cases hk : k1 = a
 ·subst hk
  obtain ⟨v', h', r, w, hap, hon, hnn, hold, hw, hk', hrn⟩ := app_own_r (n0 := h0.n + 6) (h := G.push (.cells (Blk.of [.int .i64 k2]) 3)) (v := s) (x := .slice (some (G.n, 0)) 1 1 true) (news := [.int .i64 k2]) (e := 3) (bytes := 8) (hoG.old fun b hb => w_push_ne (by omega) _) (by simp only [Heap.n_push]; omega) rfl (first_one (w_push_eq rfl _)) rfl (by simp) (by simp only [List.length_map, List.length_cons, List.length_nil]; omega) (by simp only [List.length_map, List.length_cons, List.length_nil]; omega)
  simp only [Heap.n_push] at hnn
  have y1 : h'.get (h0.n + 1) = some (.cells c 30) := by rw [hold _ (by omega), w_push_ne (by omega)]; exact x1
  have hrR : allB R r := allB_of fun b hb => hR b ((hrn b hb).elim (fun h => by simp at h; omega) fun h => by omega)
  have hwW : allB W w := allB_of fun b hb => hW b (by have := hw b hb; omega)
  have hvo : v'.one = true := hon.lr.one
  have hvc : v'.cellsV = [v'] := hon.lr.cells
  have l1 := Heap.lt_of_get y1
  simp -implicitDefEqProofs (disch := (first | omega | (simp -implicitDefEqProofs only [szs, ne_eq] <;> omega) | fail)) only [go_sem, seval, ↓reduceIte, ir34_b0, undefV, t3, t5, x0, x1, Gw, hR0, hR1, hW1, hRg, hc0, hro, hsz, appendV_of ap_30, hap, hrR, hwW, y1, ↓hvo, ↓hvc]
  have yh : ∀ x, x < h0.n + 6 → x ≠ h0.n + 4 → h'.get x = g.get x := fun x hx hne => by rw [hold x hx, w_push_ne (by omega), Gg x (by omega) hne]
  have yl : h'.get (h0.n + 4) = some lp := by rw [hold _ (by omega), w_push_ne (by omega)]; exact Gl
  have l4 := Heap.lt_of_get yl
  have k2' : ∀ (o o' : O) x, x ≠ h0.n + 1 → x ≠ h0.n + 4 → ((h'.set (h0.n + 1) o).set (h0.n + 4) o').get x = h'.get x := fun o o' x h1 h2 => by rw [w_set_ne (by rw [Heap.n_set]; omega) h2, w_set_ne l1 h1]
  refine ⟨_, by rw [yl, hlp], rfl, ⟨?_, fun x hx => ?_, ?_, ?_, ?_, c.set 0 v', v', ?_, by rw [Blk.ro_set]; exact hro, by rw [Blk.size_set]; exact hsz, by rw [Blk.get_set, if_pos rfl], ?_, appE_opn (m := 0) hap hopn rfl⟩, by omega, fun x h1 h2 h3 => ?_⟩
  ·simp only [Heap.n_set]; omega
  ·rw [k2' _ _ x (by omega) (by omega), yh x (by omega) (by omega)]; exact hc.old x hx
  ·rw [k2' _ _ _ (by omega) (by omega), yh _ (by omega) (by omega)]; exact hc.acc
  ·rw [k2' _ _ _ (by omega) (by omega), yh _ (by omega) (by omega)]; exact hc.mark
  ·exact w_set_eq (by simp only [Heap.n_set]; omega) rfl _
  ·rw [w_set_ne (by rw [Heap.n_set]; omega) (by omega)]; exact w_set_eq l1 rfl _
  ·rw [List.map_append]
   exact hon.keep fun b c' hb' => by
    have h1 : b ≠ h0.n + 1 := fun e => by rw [e, y1] at hb'; cases hb'
    have h2 : b ≠ h0.n + 4 := fun e => by rw [e, yl, hlp] at hb'; cases hb'
    rw [k2' _ _ b h1 h2]; exact hb'
  ·rw [k2' _ _ x h2 h3, yh x h1 h3]
 ·simp -implicitDefEqProofs (disch := (first | omega | (simp -implicitDefEqProofs only [szs, ne_eq] <;> omega) | fail)) only [go_sem, seval, ↓reduceIte, ir34_b0, undefV, t3, x0, Gw, hR0, hRg]
  rw [if_neg hk]
  have l4 := Heap.lt_of_get Gl
  have k2' : ∀ (o' : O) x, x ≠ h0.n + 4 → x < g.n → (G.set (h0.n + 4) o').get x = g.get x := fun o' x h1 h2 => by rw [w_set_ne l4 h1, Gg x h2 h1]
  refine ⟨_, by rw [Gl, hlp], rfl, ⟨?_, fun x hx => ?_, ?_, ?_, w_set_eq l4 rfl _, c, s, ?_, hro, hsz, hc0, ?_, hopn⟩, by omega, fun x h1 h2 h3 => ?_⟩
  ·simp only [Heap.n_set]; omega
  ·rw [k2' _ x (by omega) (by omega)]; exact hc.old x hx
  ·rw [k2' _ _ (by omega) (by omega)]; exact hc.acc
  ·rw [k2' _ _ (by omega) (by omega)]; exact hc.mark
  ·rw [k2' _ _ (by omega) (by omega)]; exact hb
  ·exact hoG.keep fun b c' hb' => by
    have h2 : b ≠ h0.n + 4 := fun e => by rw [e, Gl, hlp] at hb'; cases hb'
    rw [w_set_ne l4 h2]; exact hb'
  ·rw [k2' _ x h3 (by omega)]
theorem OColl.upd {h0 g g' : Heap} {tr : Tr V} {a : Int} {l : List Int} (hc : OColl h0 tr a l g) (hn : g.n ≤ g'.n) (hk : ∀ x, x < g.n → x ≠ h0.n + 5 → g'.get x = g.get x) (h5 : ∀ c e, g.get (h0.n + 5) ≠ some (.cells c e)) : OColl h0 tr a l g' := by
 have hn0 := hc.n
 obtain ⟨c, s, hb, hro, hsz, hc0, ho, hopn⟩ := hc.data
 refine ⟨by omega, fun x hx => by rw [hk x (by omega) (by omega)]; exact hc.old x hx, by rw [hk _ (by omega) (by omega)]; exact hc.acc, by rw [hk _ (by omega) (by omega)]; exact hc.mark, by rw [hk _ (by omega) (by omega)]; exact hc.loop, c, s, by rw [hk _ (by omega) (by omega)]; exact hb, hro, hsz, hc0, ho.keep fun b c' hb' => ?_, hopn⟩
 rw [hk b (Heap.lt_of_get hb') fun e => h5 c' 3 (by rw [← e]; exact hb')]; exact hb'
structure OKeys (h : Heap) (kb r : Nat) (es : Ents) (ck : Nat) : Prop where
 k : ∃ c, h.get kb = some (.cells c 66) ∧ c.size = 1 ∧ c.get 0 = .map (some r)
 m : h.get r = some (.map es ck)
 ok : PMap es ck
 few : es.length ≤ 1000000
set_option maxHeartbeats 4000000 in
theorem okeys_dem {h0 h1 : Heap} {tr : Tr V} {a : Int} {kb r : Nat} {es : Ents} {ck : Nat} {R W : Set'} (hc : OColl h0 tr a [] h1) (hn1 : h1.n = h0.n + 5) (t3 : tr.get 3 = some (.ptr (some (h0.n, 0)))) (t5 : tr.get 5 = some (.ptr (some (h0.n + 1, 0)))) (hk : OKeys h1 kb r es ck) (hkb : kb = h0.n + 2) (hr : r < h0.n) (hR : ∀ x, h0.n ≤ x ∨ x = r → R x) (hW : ∀ x, h0.n ≤ x → W x) :
  SF ⟨Try.prog, true⟩ 73 [.yield (h0.n + 4), .ptr (some (kb, 0))] h1 R W fun _ g => ∃ l : Ents, l.Perm es ∧ OColl h0 tr a (colO a l) g := by
 obtain ⟨c, g1, g2, g3⟩ := hk.k
 have hfew := hk.few
 have gm := hk.m
 have hRk := hR kb (.inl (by omega))
 have hRr := hR r (.inr rfl)
 have hlt1 := Heap.lt_of_get g1
 have hWn := hW h1.n (by omega)
 have hRn := hR h1.n (.inl (by omega))
 refine SF.go hm Try.func73 ir73_eq ?_
 simp -implicitDefEqProofs (disch := (first | omega | (simp -implicitDefEqProofs only [szs, ne_eq] <;> omega) | fail)) only [go_sem, seval, ↓reduceIte, reduceCtorEq, ir73, g1, g2, g3, rangeV, gm, hRk, hRr]
 refine GLoop.inv hm (fun k f g => f.mks = [] ∧ f.tm.n = 14 ∧ f.tm.get 0 = some (.yield (h0.n + 4)) ∧ f.tm.get 5 = some (.ptr (some (h0.n + 5, 0))) ∧ h0.n + 6 ≤ g.n ∧ g.get kb = some (.cells c 66) ∧
  ∃ l seen, Seen es seen l ∧ l.length + k = es.length ∧ g.get (h0.n + 5) = some (.iter (some r) ck seen ck) ∧ OColl h0 tr a (colO a l) g) es.length ?_ ?_
 ·refine ⟨rfl, rfl, rfl, by rw [hn1]; rfl, by simp only [Heap.n_push]; omega, by rw [w_push_ne (by omega)]; exact g1, [], [], Seen.nil es, by simp, by rw [w_push_eq (by omega)], hc.upd (by simp only [Heap.n_push]; omega) (fun x hx _ => w_push_ne (by omega) _) fun c e h => ?_⟩
  have := Heap.lt_of_get h; omega
 rintro k ⟨⟨m, tr'⟩, mks⟩ g ⟨hmk, hn, t0, t5', hgn, hgk, l, seen, hs, hlk, hit, hcg⟩
 simp only [Tm.get_mk] at hmk hn t0 t5'
 subst hmk hn
 have hgr : g.get r = some (.map es ck) := by rw [hcg.old r hr, ← hc.old r hr]; exact gm
 have hR3 := hR (h0.n + 5) (.inl (by omega))
 have hW3 := hW (h0.n + 5) (by omega)
 have hWg := hW g.n (by omega)
 have hRg := hR g.n (.inl (by omega))
 simp -implicitDefEqProofs (disch := (first | omega | (simp -implicitDefEqProofs only [szs, ne_eq] <;> omega) | fail)) only [go_sem, seval, ↓reduceIte, reduceCtorEq, ir73_l0, t0, t5', SNext, hit, hgr, hRr, hR3, hW3]
 refine ⟨?_, ?_, ?_⟩
 ·cases es with
  | nil => exact .inr (.inl rfl)
  | cons e es => exact .inr (.inr ⟨e, by simp, hk.ok.ok.lt e (by simp)⟩)
 ·intro hall
  have hp := hs.last hk.ok.ok fun e he => hall e he (hk.ok.ok.lt e he)
  exact ⟨l, hp, hcg⟩
 ·intro e he hns
  have hs' := hs.step he hns
  have hle := hs'.length
  rw [List.length_append, List.length_singleton] at hle
  have hE := entry_at (g := g.set (h0.n + 5) (.iter (some r) ck (seen ++ [e.2.2]) ck)) (b := h0.n + 5) (w_set_eq (by omega) rfl _) (by rw [w_set_ne (by omega) (by omega)]; exact hgr) hk.ok.ok he
  obtain ⟨⟨k1, k2⟩, hkey⟩ := hk.ok.ints e he
  have hkey' : e.1 = .agg [.int .i64 k1, .int .i64 k2] := hkey
  have hkp : keyP e.1 = (k1, k2) := by rw [hkey]; rfl
  have hcol := colO_snoc a l e
  rw [hkp] at hcol
  have hcl := colO_le a l
  simp -implicitDefEqProofs (disch := (first | omega | (simp -implicitDefEqProofs only [szs, ne_eq] <;> omega) | fail)) only [go_sem, seval, hE, hkey', hRr, hR3, hWg, hRg]
  obtain ⟨G, hG⟩ : ∃ G, G = (((g.set (h0.n + 5) (.iter (some r) ck (seen ++ [e.2.2]) ck)).push (.cells (Blk.of [.int .i64 0, .int .i64 0]) 75)).set g.n (.cells (((Blk.of [.int .i64 0, .int .i64 0]).set 0 (.int .i64 k1)).set 1 (.int .i64 k2)) 75)) := ⟨_, rfl⟩
  rw [← hG]
  have Gn : G.n = g.n + 1 := by rw [hG]; simp
  have Gk : ∀ x, x < g.n → x ≠ h0.n + 5 → G.get x = g.get x := fun x hx hne => by rw [hG, w_set_ne (by simp) (by omega), w_push_ne (by simp; omega), w_set_ne (by omega) hne]
  have Gi : G.get (h0.n + 5) = some (.iter (some r) ck (seen ++ [e.2.2]) ck) := by rw [hG, w_set_ne (by simp) (by omega), w_push_ne (by simp; omega)]; exact w_set_eq (by omega) rfl _
  clear hG
  have hcG := hcg.upd (g' := G) (by omega) Gk fun c e h => by rw [hit] at h; cases h
  refine GYield.of (oround_ok hcG t3 t5 (by omega) (fun x hx => .inr (hR x (.inl hx))) (fun x hx => .inr (hW x hx)) (by omega) k1 k2) ?_
  rintro v g' ⟨rfl, hc', hn', hk'⟩
  simp -implicitDefEqProofs (disch := (first | omega | (simp -implicitDefEqProofs only [szs, ne_eq] <;> omega) | fail)) only [go_sem, seval, ↓reduceIte, reduceCtorEq, t0, t5']
  refine ⟨k - 1, by omega, by omega, ?_, l ++ [e], _, hs', by rw [List.length_append]; simp only [List.length_cons, List.length_nil]; omega, by rw [hk' _ (by omega) (by omega) (by omega)]; exact Gi, ?_⟩
  ·rw [hk' kb (by omega) (by omega) (by omega), Gk kb (by omega) (by omega)]; exact hgk
  ·rw [hcol]; exact hc'
end Go.Proofs.Ytmimialblhlklaa
