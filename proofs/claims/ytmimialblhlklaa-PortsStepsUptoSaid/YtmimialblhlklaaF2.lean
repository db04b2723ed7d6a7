/- Ports: Open. -/
import Derived.Test.YtmimialblhlklaaF
set_option linter.unusedVariables false
set_option maxRecDepth 100000
namespace Go.Proofs.Ytmimialblhlklaa
open Go Go.Vm
variable {h : Heap} {R W I : Set'} {pp mp : Nat} {qs : List Nat} {T : PT}
theorem getP_of_mem : ∀ {es : Ents} {e : V × V × Nat}, (es.map fun e => keyP e.1).Nodup → e ∈ es → getP es (keyP e.1) = some e.2.1
 | [], e, _, h => by cases h
 | x :: r, e, hn, h => by
  simp only [List.map_cons, List.nodup_cons] at hn
  rcases List.mem_cons.1 h with rfl | h
  ·exact getP_hit _ rfl
  ·rw [getP_miss _ (fun e1 => hn.1 (e1 ▸ List.mem_map.2 ⟨e, h, rfl⟩)), getP_of_mem hn.2 h]
theorem PortsAt.ent (hp : PortsAt h I pp mp qs T) {es : Ents} {ck : Nat} (hm' : PMap es ck) (hg : ∀ k : Int × Int, getP es k = (lookT T k.1 k.2).map fun x => V.ptr (some (x.1, 0))) {e : V × V × Nat} (he : e ∈ es) : ∃ (a n b : Nat) (x : Pt), a < 8 ∧ n < 16 ∧ keyP e.1 = ((a : Int), (n : Int)) ∧ T a n = some (b, x) ∧ e.2.1 = .ptr (some (b, 0)) := by
 have h1 := getP_of_mem hm'.keys he
 rw [hg] at h1
 rcases hk : keyP e.1 with ⟨k1, k2⟩
 rw [hk] at h1
 simp only at h1
 cases hl : lookT T k1 k2 with
 | none => rw [hl] at h1; cases h1
 | some y =>
  obtain ⟨b, x⟩ := y
  obtain ⟨h2, h3, h4⟩ := lookT_some hl
  rw [hl] at h1
  obtain ⟨q, hq, hnq⟩ := hp.dom _ _ _ h4
  have h5 := (List.getElem?_eq_some_iff.1 hq).1
  have h6 := hp.qs.2.2 q (List.mem_of_getElem? hq)
  have h7 := hp.qs.2.1
  refine ⟨k1.toNat, k2.toNat, b, x, by omega, by omega, ?_, h4, (Option.some.inj h1).symm⟩
  rw [show ((k1.toNat : Nat) : Int) = k1 by omega, show ((k2.toNat : Nat) : Int) = k2 by omega]
theorem nodup_map_on {α β : Type} {f : α → β} : ∀ {l : List α}, l.Nodup → (∀ a ∈ l, ∀ b ∈ l, f a = f b → a = b) → (l.map f).Nodup
 | [], _, _ => by simp
 | x :: l, h, hf => by
  rw [List.nodup_cons] at h
  rw [List.map_cons, List.nodup_cons]
  refine ⟨fun hm => ?_, nodup_map_on h.2 fun a ha b hb => hf a (by simp [ha]) b (by simp [hb])⟩
  obtain ⟨y, hy, e⟩ := List.mem_map.1 hm
  rw [hf y (by simp [hy]) x (by simp) e] at hy
  exact h.1 hy
theorem PortsAt.few (hp : PortsAt h I pp mp qs T) {es : Ents} {ck : Nat} (hm' : PMap es ck) (hg : ∀ k : Int × Int, getP es k = (lookT T k.1 k.2).map fun x => V.ptr (some (x.1, 0))) : es.length ≤ 128 := by
 have h1 : ((es.map fun e => keyP e.1).map fun k : Int × Int => k.1.toNat * 16 + k.2.toNat).Nodup := nodup_map_on hm'.keys fun a ha b hb hab => by
  obtain ⟨e, he, rfl⟩ := List.mem_map.1 ha
  obtain ⟨e', he', rfl⟩ := List.mem_map.1 hb
  obtain ⟨a, n, _, _, h2, h3, h4, _⟩ := hp.ent hm' hg he
  obtain ⟨a', n', _, _, h2', h3', h4', _⟩ := hp.ent hm' hg he'
  rw [h4, h4'] at hab ⊢
  simp only [Int.toNat_natCast] at hab
  rw [show a = a' by omega, show n = n' by omega]
 have := nodup_lt 128 _ h1 fun i hi => by
  obtain ⟨k, hk, rfl⟩ := List.mem_map.1 hi
  obtain ⟨e, he, rfl⟩ := List.mem_map.1 hk
  obtain ⟨a, n, _, _, h2, h3, h4, _⟩ := hp.ent hm' hg he
  rw [h4]
  simp only [Int.toNat_natCast]; omega
 simpa using this
def openN (T : PT) (a : Int) : List Nat := (List.range 16).filter fun n => (lookT T a (n : Int)).isSome
def openL (T : PT) (a : Int) : List Int := (openN T a).map fun n : Nat => (n : Int)
theorem asc_ext : ∀ {a b : List Int}, a.Pairwise (· < ·) → b.Pairwise (· < ·) → (∀ x, x ∈ a ↔ x ∈ b) → a = b
 | [], [], _, _, _ => rfl
 | [], y :: b, _, _, h => by have := (h y).2 (by simp); cases this
 | x :: a, [], _, _, h => by have := (h x).1 (by simp); cases this
 | x :: a, y :: b, ha, hb, h => by
  rw [List.pairwise_cons] at ha hb
  have hxy : x = y := by
   have h1 := (h x).1 (by simp)
   have h2 := (h y).2 (by simp)
   rcases List.mem_cons.1 h1 with h1 | h1
   ·exact h1
   ·rcases List.mem_cons.1 h2 with h2 | h2
    ·exact h2.symm
    ·have := ha.1 y h2; have := hb.1 x h1; omega
  subst hxy
  rw [asc_ext ha.2 hb.2 fun z => ?_]
  have := h z
  constructor
  ·intro hz
   rcases List.mem_cons.1 (this.1 (by simp [hz])) with h3 | h3
   ·have := ha.1 z hz; omega
   ·exact h3
  ·intro hz
   rcases List.mem_cons.1 (this.2 (by simp [hz])) with h3 | h3
   ·have := hb.1 z hz; omega
   ·exact h3
theorem openL_asc (T : PT) (a : Int) : (openL T a).Pairwise (· < ·) := by
 unfold openL openN
 rw [List.pairwise_map]
 exact ((List.pairwise_lt_range).filter _).imp fun h => by omega
theorem sortI_asc {l : List Int} (hn : l.Nodup) : (sortI l).Pairwise (· < ·) := by
 have h1 : (sortI l).Pairwise fun x y => x ≤ y := (List.pairwise_mergeSort (le := fun x y => decide (x ≤ y)) (fun a b c h1 h2 => by simp at *; omega) (fun a b => by simp; omega) l).imp fun h => by simpa using h
 have h2 : (sortI l).Nodup := (List.mergeSort_perm l _).symm.nodup hn
 exact (h1.and h2).imp fun ⟨h3, h4⟩ => by omega
theorem PortsAt.sorted (hp : PortsAt h I pp mp qs T) {es l : Ents} {ck : Nat} (hm' : PMap es ck) (hg : ∀ k : Int × Int, getP es k = (lookT T k.1 k.2).map fun x => V.ptr (some (x.1, 0))) (hl : l.Perm es) (a : Int) : sortI (colO a l) = openL T a := by
 have hk : (l.map fun e => keyP e.1).Nodup := (hl.map fun e => keyP e.1).symm.nodup hm'.keys
 have hn : (colO a l).Nodup := by
  unfold colO
  have h1 : ((l.filter fun e => decide ((keyP e.1).1 = a)).map fun e => keyP e.1).Nodup := hk.sublist ((List.filter_sublist).map _)
  have h2 := nodup_map_on (f := Prod.snd) h1 fun x hx y hy hxy => by
   obtain ⟨e, he, rfl⟩ := List.mem_map.1 hx
   obtain ⟨e', he', rfl⟩ := List.mem_map.1 hy
   have h3 := of_decide_eq_true (List.mem_filter.1 he).2
   have h4 := of_decide_eq_true (List.mem_filter.1 he').2
   exact Prod.ext (h3.trans h4.symm) hxy
  rw [List.map_map] at h2
  exact h2
 refine asc_ext (sortI_asc hn) (openL_asc T a) fun x => ?_
 rw [show x ∈ sortI (colO a l) ↔ x ∈ colO a l from (List.mergeSort_perm _ _).mem_iff]
 unfold colO openL openN
 simp only [List.mem_map, List.mem_filter, List.mem_range, decide_eq_true_eq]
 constructor
 ·rintro ⟨e, ⟨he, ha⟩, rfl⟩
  obtain ⟨a', n, b, y, h2, h3, h4, h5, _⟩ := hp.ent hm' hg (hl.mem_iff.1 he)
  rw [h4] at ha ⊢
  simp only at ha
  subst ha
  refine ⟨n, ⟨h3, ?_⟩, rfl⟩
  rw [show lookT T (a' : Int) (n : Int) = T a' n from if_pos ⟨by omega, by omega⟩, h5]; rfl
 ·rintro ⟨n, ⟨h3, h4⟩, rfl⟩
  cases hlk : lookT T a (n : Int) with
  | none => rw [hlk] at h4; cases h4
  | some y =>
   have h5 := hg (a, (n : Int))
   simp only [hlk, Option.map_some] at h5
   obtain ⟨e, he, hke⟩ := getP_mem h5
   exact ⟨e, ⟨hl.mem_iff.2 he, by rw [hke]⟩, by rw [hke]⟩
def isUnit : Option (V × St) → Bool
 | some (.tuple [], _) => true
 | _ => false
theorem isUnit_some {x : Option (V × St)} (h : isUnit x = true) : ∃ s, x = some (undefV, s) := by
 unfold isUnit at h
 split at h
 ·exact ⟨_, rfl⟩
 ·cases h
theorem sort_none_run : isUnit (evInv Try.prog 1000 40 (.fn 62) [.slice none 0 0 true] s0) = true := by kernel_rfl
theorem sort_none (h : Heap) (R W : Set') : SF Try.prog 62 [.slice none 0 0 true] h R W fun v h' => v = undefV ∧ h' = h := by
 obtain ⟨s, hs⟩ := isUnit_some sort_none_run
 exact ⟨undefV, h, ⟨rfl, rfl⟩, ((evInv_good hm 1000 40).fn _ _ _ _ _ hs).plain rfl rfl h R W⟩
theorem sortI_nil : sortI [] = [] := by simp [sortI]
theorem sort62 {n0 : Nat} {v : V} {zs : List Int} (ho : Own n0 h v (zs.map (.int .i64)) 3) (hl : zs.length ≤ 1000000) (hR : ∀ b, n0 ≤ b → R b) (hW : ∀ b, n0 ≤ b → W b) : SF Try.prog 62 [v] h R W fun _ h' => Own n0 h' v ((sortI zs).map (.int .i64)) 3 ∧ h'.n = h.n ∧ ∀ b, b ≠ sblk v ∨ b < n0 → h'.get b = h.get b := by
 have key : ∀ (b : Nat) (c : Blk) (cap : Nat) (x : Bool), h.get b = some (.cells c 3) → n0 ≤ b → c.ro = false → c.size = zs.length → c.gets 0 zs.length = zs.map (.int .i64) → SF Try.prog 62 [.slice (some (b, 0)) zs.length cap x] h R W fun _ h' => h' = h.set b (.cells (c.puts 0 ((sortI zs).map (.int .i64))) 3) := fun b c cap x hb hn hr hs hg => by
  refine SF.mono ((sort_ok laysSort hb zs (by omega) (fun i hi => ?_) hr (by omega) cap x).foot (fun b' h => hR b' (by rw [h]; exact hn)) (fun b' h => hW b' (by rw [h]; exact hn))) fun v h' h => h.2
  have := Blk.gets_get c zs.length 0 i hi
  rw [hg, Nat.zero_add] at this
  rw [List.getElem?_map, List.getElem?_eq_getElem hi] at this
  exact (Option.some.inj this).symm
 rcases ho with ⟨h0, rfl | ⟨b, c, rfl, hb0, hb, hr⟩⟩ | ⟨b, x, c, h0, rfl, hb0, hb, hs, hr, hg⟩
 ·obtain rfl : zs = [] := by simpa using h0
  refine SF.mono (sort_none h R W) ?_
  rintro v h' ⟨rfl, rfl⟩
  exact ⟨.inl ⟨by rw [sortI_nil]; rfl, .inl rfl⟩, rfl, fun _ _ => rfl⟩
 ·obtain rfl : zs = [] := by simpa using h0
  have hlt := Heap.lt_of_get hb
  have h1 : SF Try.prog 62 [.slice (some (b, 0)) 0 0 true] h R W fun _ h' => h' = h.set b (.cells (c.puts 0 ((sortI []).map (.int .i64))) 3) := by
   refine SF.mono ((sort_ok laysSort (zs := []) hb (by simp) (fun i hi => by simp at hi) hr (by simp) 0 true).foot (fun b' h => hR b' (by rw [h]; exact hb0)) (fun b' h => hW b' (by rw [h]; exact hb0))) fun v h' h => h.2
  refine SF.mono h1 ?_
  rintro v h' rfl
  refine ⟨.inl ⟨by rw [sortI_nil]; rfl, .inr ⟨b, _, rfl, hb0, w_set_eq hlt rfl _, by rw [Blk.ro_puts]; exact hr⟩⟩, by simp, fun b' hb' => w_set_ne hlt (fun e => by
   rcases hb' with h | h
   ·exact h e
   ·omega) _⟩
 ·rw [List.length_map] at hs hg ⊢
  have hlt := Heap.lt_of_get hb
  refine SF.mono (key b c _ x hb hb0 hr hs hg) ?_
  rintro v h' rfl
  have hll : ((sortI zs).map (V.int .i64)).length = zs.length := by rw [List.length_map, sortI_length]
  refine ⟨.inr ⟨b, x, _, fun e => h0 ?_, by rw [hll], hb0, w_set_eq hlt rfl _, by rw [Blk.size_puts, hll]; exact hs, by rw [Blk.ro_puts]; exact hr, ?_⟩, by simp, fun b' hb' => w_set_ne hlt (fun e => by
   rcases hb' with h | h
   ·exact h e
   ·omega) _⟩
  ·have := congrArg List.length e
   rw [hll] at this
   rw [List.length_eq_zero_iff.1 this]; rfl
  ·rw [hll]
   refine List.ext_getElem? fun j => ?_
   by_cases hj : j < zs.length
   ·rw [Blk.gets_get _ _ _ _ hj, Blk.get_puts, if_pos (by omega), Nat.zero_add, Nat.sub_zero, List.getD_eq_getElem?_getD, List.getElem?_eq_getElem (by omega)]; rfl
   ·rw [List.getElem?_eq_none (by rw [Blk.length_gets]; omega), List.getElem?_eq_none (by omega)]
theorem keys61 {m : Nat} : SF Try.prog 61 [.map (some m)] h R W fun v h' => v = .func 73 [] [.ptr (some (h.n, 0))] ∧ h' = h.push (.cells (Blk.of [.map (some m)]) 66) := by
 refine SF.go hm Try.func61 ir61_eq ?_
 simp -implicitDefEqProofs (disch := (first | omega | fail)) only [go_sem, seval, ↓reduceIte, reduceCtorEq, ir61]
set_option maxHeartbeats 4000000 in
theorem open_dem (hp : PortsAt h I pp mp qs T) (hR : ∀ b, b = pp ∨ b = mp → R b) (a : Int) : SF ⟨Try.prog, true⟩ 34 [.ptr (some (pp, 0)), .int .i64 a] h R W fun v g => (∀ b, b < h.n → g.get b = h.get b) ∧ h.n ≤ g.n ∧ Own h.n g v ((openL T a).map (.int .i64)) 3 ∧ Opn v := by
 obtain ⟨c, c1, c2, c3, c4⟩ := hp.c
 obtain ⟨es, ck, m1, m2, m3⟩ := hp.m
 have hfew := hp.few m2 m3
 have hRp := hR pp (.inl rfl)
 have hlt := hp.lt
 refine SF.go hm Try.func34 ir34_eq ?_
 simp -implicitDefEqProofs (disch := (first | omega | (simp -implicitDefEqProofs only [szs, ne_eq] <;> omega) | fail)) only [go_sem, seval, ↓reduceIte, reduceCtorEq, ir34]
 refine GCall.of ((there_ok (hp.old (h' := (h.push _).push _) fun b hb => by simp -implicitDefEqProofs (disch := (first | omega | (simp -implicitDefEqProofs only [szs, ne_eq] <;> omega) | fail)) only [go_sem, seval]) (.inr (hR _ (.inl rfl)))).any) ?_
 rintro v g ⟨rfl, rfl⟩
 have c1' : ((h.push (.cells (Blk.of [.int .i64 a]) 3)).push (.cells (Blk.of [.slice none 0 0 true]) 30)).get pp = some (.cells c 68) := by rw [w_push_ne (by simp; omega), w_push_ne (by omega)]; exact c1
 simp -implicitDefEqProofs (disch := (first | omega | (simp -implicitDefEqProofs only [szs, ne_eq] <;> omega) | fail)) only [go_sem, seval, ↓reduceIte, reduceCtorEq, c1', c2, c3, hRp]
 refine GCall.of (keys61.any) ?_
 rintro v g ⟨rfl, rfl⟩
 simp -implicitDefEqProofs (disch := (first | omega | (simp -implicitDefEqProofs only [szs, ne_eq] <;> omega) | fail)) only [go_sem, seval, ↓reduceIte, reduceCtorEq]
 refine GRange.outer (k := 73) (xs := []) (ys := [.ptr (some (h.n + 1 + 1, 0))]) rfl ca_73 ?_
 refine SF.mono (okeys_dem (h0 := h) (a := a) (kb := h.n + 1 + 1) (r := mp) (es := es) (ck := ck) (tr := ((((Tr.nil.node (some (V.ptr (some (pp, 0)))) Tr.nil).node (some (V.ptr (some (h.n, 0)))) (Tr.nil.node (some (V.ptr (some (pp, 0)))) Tr.nil)).node (some (V.int .i64 a)) ((Tr.nil.node (some (V.bool false)) Tr.nil).node (some (V.ptr (some (h.n + 1, 0)))) (Tr.nil.node (some (V.map (some mp))) Tr.nil))).node (some (V.ptr (some (pp, 0)))) (((Tr.nil.node (some (V.bool true)) Tr.nil).node (some (V.slice none 0 0 true)) (Tr.nil.node (some (V.ptr (some (pp, 1)))) Tr.nil)).node none ((Tr.nil.node (some (V.ptr (some (pp, 0)))) Tr.nil).node none (Tr.nil.node (some (V.func 73 [] [V.ptr (some (h.n + 1 + 1, 0))])) Tr.nil))))) ?_ ?_ rfl rfl ?_ rfl hlt.2 (fun x hx => hx.elim .inl fun e => .inr (hR x (.inr e))) (fun x hx => .inl hx)) ?_
 ·exact ⟨by simp only [Heap.n_push]; omega, fun x hx => by simp -implicitDefEqProofs (disch := (first | omega | (simp -implicitDefEqProofs only [szs, ne_eq] <;> omega) | fail)) only [go_sem, seval], by simp -implicitDefEqProofs (disch := (first | omega | (simp -implicitDefEqProofs only [szs, ne_eq] <;> omega) | fail)) only [go_sem, seval], by simp -implicitDefEqProofs (disch := (first | omega | (simp -implicitDefEqProofs only [szs, ne_eq] <;> omega) | fail)) only [go_sem, seval], by simp -implicitDefEqProofs (disch := (first | omega | (simp -implicitDefEqProofs only [szs, ne_eq] <;> omega) | fail)) only [go_sem, seval], Blk.of [.slice none 0 0 true], .slice none 0 0 true, by simp -implicitDefEqProofs (disch := (first | omega | (simp -implicitDefEqProofs only [szs, ne_eq] <;> omega) | fail)) only [go_sem, seval], rfl, rfl, rfl, .inl ⟨rfl, .inl rfl⟩, .inl rfl⟩
 ·simp only [Heap.n_push]
 ·exact ⟨⟨Blk.of [.map (some mp)], by simp -implicitDefEqProofs (disch := (first | omega | (simp -implicitDefEqProofs only [szs, ne_eq] <;> omega) | fail)) only [go_sem, seval], rfl, rfl⟩, by simp -implicitDefEqProofs (disch := (first | omega | (simp -implicitDefEqProofs only [szs, ne_eq] <;> omega) | fail)) only [go_sem, seval, m1], m2, by omega⟩
 rintro v g ⟨l, hpm, hc⟩
 have hn0 := hc.n
 have hWl : h.n ≤ h.n + 4 ∨ W (h.n + 4) := .inl (by omega)
 refine ⟨_, hc.loop, by simp, .inl (by simp only [Heap.n_push]; omega), ?_⟩
 simp only []
 obtain ⟨cs, s, hb, hro, hsz, hc0, ho, hopn⟩ := hc.data
 have hcl := colO_le a l
 have hpl := hpm.length_eq
 have hR1 : h.n ≤ h.n + 1 ∨ R (h.n + 1) := .inl (by omega)
 simp -implicitDefEqProofs (disch := (first | omega | (simp -implicitDefEqProofs only [szs, ne_eq] <;> omega) | fail)) only [go_sem, seval, ↓reduceIte, reduceCtorEq, hb, hsz, hc0]
 have ho2 : ∀ o, Own (h.n + 6) (g.set (h.n + 4) o) s ((colO a l).map (.int .i64)) 3 := fun o => ho.keep fun b c' hb' => by
  have h2 : b ≠ h.n + 4 := fun e => by rw [e, hc.loop] at hb'; cases hb'
  rw [w_set_ne (by omega) h2]; exact hb'
 refine GCall.of (((sort62 (R := fun b => h.n + 6 ≤ b) (W := fun b => h.n + 6 ≤ b) (ho2 _) (by omega) (fun _ h => h) (fun _ h => h)).any).foot (fun b h => .inl (Nat.le_trans (by omega) h)) (fun b h => .inl (Nat.le_trans (by omega) h))) ?_
 rintro v g2 ⟨hs, hn2, hk2⟩
 have gk : ∀ b, b < h.n + 6 → b ≠ h.n + 4 → g2.get b = g.get b := fun b hb hne => by rw [hk2 b (.inr hb), w_set_ne (by omega) hne]
 have y1 := (gk (h.n + 1) (by omega) (by omega)).trans hb
 have y3 := (gk (h.n + 3) (by omega) (by omega)).trans hc.mark
 have ly := Heap.lt_of_get y3
 rw [hp.sorted m2 m3 hpm a] at hs
 simp only [Heap.n_set] at hn2
 simp -implicitDefEqProofs (disch := (first | omega | (simp -implicitDefEqProofs only [szs, ne_eq] <;> omega) | fail)) only [go_sem, seval, ↓reduceIte, reduceCtorEq, y1, hsz, hc0, y3]
 refine ⟨.inl (by omega), fun b hb => ?_, by omega, (hs.mono (by omega)).keep fun b c' hb' => ?_, hopn⟩
 ·rw [w_set_ne ly (by omega), gk b (by omega) (by omega)]; exact hc.old b hb
 ·have h2 : b ≠ h.n + 3 := fun e => by rw [e, y3] at hb'; cases hb'
  rw [w_set_ne ly h2]; exact hb'
end Go.Proofs.Ytmimialblhlklaa
