/- Tables of pages: Where, Count. -/
import Derived.Test.YtkfhdaimememiaaI
set_option linter.unusedVariables false
set_option linter.unusedSimpArgs false
set_option linter.unusedSimpArgs false
set_option maxRecDepth 100000
set_option linter.unusedVariables false
set_option linter.unusedSimpArgs false
namespace Go.Proofs.Ytkfhdaimememiaa
open Go Go.Vm Go.Proofs
def valI : V → Int
  | .int _ k => k
  | _ => 0
def idxP (k : Int × Int) : Nat := k.1.toNat * 32 + k.2.toNat
/-- The places that were collected so far. -/
def colL (f : Int) (l : Ents) : List Nat := (l.filter fun e => decide (valI e.2.1 = f)).map fun e => idxP (keyP e.1)
theorem colL_snoc (f : Int) (l : Ents) (e : V × V × Nat) : colL f (l ++ [e]) = if valI e.2.1 = f then colL f l ++ [idxP (keyP e.1)] else colL f l := by
  unfold colL
  rw [List.filter_append]
  by_cases h : valI e.2.1 = f
  · rw [if_pos h]
    have e1 : [e].filter (fun e => decide (valI e.2.1 = f)) = [e] := List.filter_cons_of_pos (p := fun e : V × V × Nat => decide (valI e.2.1 = f)) (decide_eq_true h)
    rw [e1, List.map_append]; rfl
  · rw [if_neg h]
    have e1 : [e].filter (fun e => decide (valI e.2.1 = f)) = [] := List.filter_cons_of_neg (p := fun e : V × V × Nat => decide (valI e.2.1 = f)) (fun e => h (of_decide_eq_true e))
    rw [e1, List.append_nil]
theorem getP_of_mem : ∀ {es : Ents} {e : V × V × Nat}, (es.map fun e => keyP e.1).Nodup → e ∈ es → getP es (keyP e.1) = some e.2.1
  | [], e, _, h => by cases h
  | x :: r, e, hn, h => by
    simp only [List.map_cons, List.nodup_cons] at hn
    rcases List.mem_cons.1 h with rfl | h
    · exact getP_hit _ rfl
    · rw [getP_miss _ (fun e1 => hn.1 (e1 ▸ List.mem_map.2 ⟨e, h, rfl⟩)), getP_of_mem hn.2 h]
/-- What stands in the map. -/
theorem ent_ok {T : Tb} {es : Ents} {ck : Nat} (hp : PMap es ck) (hg : ∀ k, getP es k = whereV T k) {e : V × V × Nat} (he : e ∈ es) : ∃ (a q : Nat) (x : En), a < 16 ∧ q < 32 ∧ e.1 = kp ((a : Int), (q : Int)) ∧ T a q = some x ∧ e.2.1 = .int .i64 x.f := by
  have h1 := getP_of_mem hp.keys he
  obtain ⟨k, hk⟩ := hp.ints e he
  have hkk : keyP e.1 = k := by rw [hk]; rfl
  rw [hkk, hg, whereV] at h1
  by_cases hok : okSP k.1 k.2
  · rw [if_pos hok] at h1
    obtain ⟨a, q, ha, hq, hla, hlq⟩ := nat_of hok
    obtain ⟨k1, k2⟩ := k
    simp only at ha hq
    subst ha hq
    simp only [Int.toNat_natCast] at h1
    cases hT : T a q with
    | none => rw [hT] at h1; cases h1
    | some x =>
      rw [hT] at h1
      exact ⟨a, q, x, hla, hlq, hk, hT, (Option.some.inj h1).symm⟩
  · rw [if_neg hok] at h1; cases h1
theorem col_mem {T : Tb} {es : Ents} {ck : Nat} (hp : PMap es ck) (hg : ∀ k, getP es k = whereV T k) {f : Int} {i : Nat} : i ∈ colL f es ↔ i ∈ spots T f 512 := by
  unfold colL
  rw [spots_mem, List.mem_map]
  constructor
  · rintro ⟨e, he, rfl⟩
    rw [List.mem_filter, decide_eq_true_iff] at he
    obtain ⟨a, q, x, ha, hq, h1, hT, h2⟩ := ent_ok hp hg he.1
    have hf : x.f = f := by have := he.2; rw [h2] at this; exact this
    have hidx : idxP (keyP e.1) = a * 32 + q := by rw [h1]; simp [idxP, keyP, kp]
    rw [hidx]
    have e1 : (a * 32 + q) / 32 = a := by omega
    have e2 : (a * 32 + q) % 32 = q := by omega
    rw [e1, e2, hT]
    exact ⟨by omega, by rw [← hf]; rfl⟩
  · rintro ⟨hi, hT⟩
    cases hx : T (i / 32) (i % 32) with
    | none => rw [hx] at hT; cases hT
    | some x =>
      rw [hx] at hT
      have hf : x.f = f := Option.some.inj hT
      have hok : okSP ((i / 32 : Nat) : Int) ((i % 32 : Nat) : Int) := ⟨⟨by omega, by omega⟩, by omega, by omega⟩
      have h1 : getP es (((i / 32 : Nat) : Int), ((i % 32 : Nat) : Int)) = some (.int .i64 x.f) := by
        rw [hg, whereV, if_pos hok]
        simp only [Int.toNat_natCast, hx]; rfl
      obtain ⟨e, he, hk⟩ := getP_mem h1
      have h2 := getP_of_mem hp.keys he
      rw [hk, h1] at h2
      refine ⟨e, ?_, ?_⟩
      · rw [List.mem_filter, decide_eq_true_iff]
        refine ⟨he, ?_⟩
        rw [← Option.some.inj h2]
        exact hf
      · rw [hk]
        simp only [idxP, Int.toNat_natCast]; omega
theorem col_lt {T : Tb} {es : Ents} {ck : Nat} (hp : PMap es ck) (hg : ∀ k, getP es k = whereV T k) {f : Int} {l : Ents} (hl : ∀ e ∈ l, e ∈ es) {i : Nat} (hi : i ∈ colL f l) : i < 512 := by
  obtain ⟨e, he, rfl⟩ := List.mem_map.1 hi
  obtain ⟨a, q, x, ha, hq, h1, hT, h2⟩ := ent_ok hp hg (hl e (List.mem_filter.1 he).1)
  rw [h1]; simp [idxP, keyP, kp]; omega
theorem nodup_map_on {α β : Type} {f : α → β} : ∀ {l : List α}, l.Nodup → (∀ a ∈ l, ∀ b ∈ l, f a = f b → a = b) → (l.map f).Nodup
  | [], _, _ => by simp
  | x :: l, h, hf => by
    rw [List.nodup_cons] at h
    rw [List.map_cons, List.nodup_cons]
    refine ⟨fun hm => ?_, nodup_map_on h.2 fun a ha b hb => hf a (by simp [ha]) b (by simp [hb])⟩
    obtain ⟨y, hy, e⟩ := List.mem_map.1 hm
    rw [hf y (by simp [hy]) x (by simp) e] at hy
    exact h.1 hy
theorem col_nodup {T : Tb} {es : Ents} {ck : Nat} (hp : PMap es ck) (hg : ∀ k, getP es k = whereV T k) (f : Int) {l : Ents} (hl : ∀ e ∈ l, e ∈ es) (hn : l.Nodup) : (colL f l).Nodup := by
  have h0 : (l.map fun e => keyP e.1).Nodup := nodup_map_on hn fun a ha b hb e => nodup_inj hp.keys (hl a ha) (hl b hb) e
  have h1 : ((l.map fun e => keyP e.1).map idxP).Nodup := nodup_map_on h0 fun a ha b hb hab => by
    obtain ⟨e, he, rfl⟩ := List.mem_map.1 ha
    obtain ⟨e', he', rfl⟩ := List.mem_map.1 hb
    obtain ⟨a, q, x, hla, hq, h1, hT, h2⟩ := ent_ok hp hg (hl e he)
    obtain ⟨a', q', x', hla', hq', h1', hT', h2'⟩ := ent_ok hp hg (hl e' he')
    rw [h1, h1'] at hab ⊢
    simp only [keyP, kp, idxP, Int.toNat_natCast] at hab ⊢
    rw [show a = a' by omega, show q = q' by omega]
  rw [List.map_map] at h1
  exact h1.sublist ((List.filter_sublist).map _)
theorem col_len {T : Tb} {es : Ents} {ck : Nat} (hp : PMap es ck) (hg : ∀ k, getP es k = whereV T k) (f : Int) {l : Ents} (hl : ∀ e ∈ l, e ∈ es) (hn : l.Nodup) : (colL f l).length ≤ 512 := by
  have := nodup_length (m := List.range 512) (col_nodup hp hg f hl hn) fun i hi => List.mem_range.2 (col_lt hp hg hl hi)
  rw [List.length_range] at this
  exact this
theorem ascN_ext : ∀ {a b : List Nat}, a.Pairwise (· < ·) → b.Pairwise (· < ·) → (∀ x, x ∈ a ↔ x ∈ b) → a = b
  | [], [], _, _, _ => rfl
  | [], y :: b, _, _, h => by have := (h y).2 (by simp); cases this
  | x :: a, [], _, _, h => by have := (h x).1 (by simp); cases this
  | x :: a, y :: b, ha, hb, h => by
    rw [List.pairwise_cons] at ha hb
    have hxy : x = y := by
      have h1 := (h x).1 (by simp)
      have h2 := (h y).2 (by simp)
      rcases List.mem_cons.1 h1 with e | h1
      · exact e
      · rcases List.mem_cons.1 h2 with e | h2
        · exact e.symm
        · have := ha.1 _ h2; have := hb.1 _ h1; omega
    subst hxy
    rw [ascN_ext ha.2 hb.2 fun z => ?_]
    constructor
    · intro hz
      rcases List.mem_cons.1 ((h z).1 (by simp [hz])) with e | e
      · have := ha.1 _ hz; omega
      · exact e
    · intro hz
      rcases List.mem_cons.1 ((h z).2 (by simp [hz])) with e | e
      · have := hb.1 _ hz; omega
      · exact e
theorem spots_asc (T : Tb) (f : Int) (n : Nat) : (spots T f n).Pairwise (· < ·) := (List.pairwise_lt_range).filter _
/-- Once sorted, it is just the places. -/
theorem col_sorted {T : Tb} {es : Ents} {ck : Nat} (hp : PMap es ck) (hg : ∀ k, getP es k = whereV T k) {f : Int} {l : Ents} (hl : l.Perm es) {zs zs' : List (Fin 512)} (hz : zs.map Fin.val = colL f l) (h1 : zs'.Perm zs) (h2 : zs'.Pairwise (fun x y => ltOf spC y x = false)) : zs'.map Fin.val = spots T f 512 := by
  have hperm : (zs'.map Fin.val).Perm (colL f es) := by
    refine (h1.map _).trans ?_
    rw [hz]
    exact (hl.filter _).map _
  have hnd : (zs'.map Fin.val).Nodup := hperm.nodup_iff.2 (col_nodup hp hg f (fun _ h => h) (nodup_of_map hp.ok.nodup))
  refine ascN_ext ?_ (spots_asc T f 512) fun x => by rw [hperm.mem_iff, col_mem hp hg]
  have h3 : (zs'.map Fin.val).Pairwise (· ≤ ·) := by
    rw [List.pairwise_map]
    exact h2.imp fun {a b} h => by rw [spC_lt] at h; have := of_decide_eq_false h; omega
  exact (h3.and hnd).imp fun ⟨a, b⟩ => by omega
theorem flP_spV (zs : List (Fin 512)) : flP spI1 spI2 zs = spV (zs.map Fin.val) := by
  induction zs with
  | nil => rfl
  | cons x zs ih =>
    have e1 : flP spI1 spI2 (x :: zs) = V.int .i64 (spI1 x) :: V.int .i64 (spI2 x) :: flP spI1 spI2 zs := rfl
    have e2 : spV (List.map Fin.val (x :: zs)) = V.int .i64 (x.val / 32 : Nat) :: V.int .i64 (x.val % 32 : Nat) :: spV (zs.map Fin.val) := rfl
    rw [e1, e2, ih]; rfl
theorem fin_of : ∀ {l : List Nat}, (∀ i ∈ l, i < 512) → ∃ zs : List (Fin 512), zs.map Fin.val = l
  | [], _ => ⟨[], rfl⟩
  | x :: l, h => by
    obtain ⟨zs, hz⟩ := fin_of (l := l) fun i hi => h i (by simp [hi])
    exact ⟨⟨x, h x (by simp)⟩ :: zs, by rw [List.map_cons, hz]⟩
theorem puts_gets (c : Blk) (l : List V) {n : Nat} (hn : l.length = n) : (c.puts 0 l).gets 0 n = l := by
  apply List.ext_getElem?
  intro j
  by_cases hj : j < n
  · rw [Blk.gets_get _ _ _ _ hj, Blk.get_puts]
    simp only [Nat.zero_le, true_and, Nat.zero_add, Nat.sub_zero]
    rw [if_pos (by omega), List.getD_eq_getElem?_getD, List.getElem?_eq_getElem (by omega)]; rfl
  · rw [List.getElem?_eq_none (by rw [Blk.length_gets]; omega), List.getElem?_eq_none (by omega)]
set_option maxHeartbeats 4000000 in
theorem where_dem {h : Heap} {R W : Set'} {tb r : Nat} {T : Tb} (ht : TabAt h tb r T) (hR : ∀ b, R b) (fr : Int) :
    SF ⟨Try.prog, true⟩ 19 [.ptr (some (tb, 0)), .int .i64 fr] h R W fun v h' => OwnS 2 h.n h' v (spots T fr 512).length (spV (spots T fr 512)) 50 ∧ h.n ≤ h'.n ∧ ∀ b, b < h.n → h'.get b = h.get b := by
  obtain ⟨c, t1, t2, t3, t4, t5⟩ := ht.t
  obtain ⟨es, ck, m1, m2, m3⟩ := ht.m
  have hlt := ht.lt
  have hR1 := hR tb
  have hR2 := hR r
  refine SF.go hm Try.func19 ir19_eq ?_
  simp -implicitDefEqProofs (disch := (first | omega | (simp -implicitDefEqProofs only [szs, ne_eq] <;> omega) | fail)) only [go_sem, Nat.reduceAdd, Nat.reduceSub, Nat.reduceMul, Nat.reduceLT, Nat.reduceMod, Nat.reduceDiv, Nat.reduceEqDiff, Nat.reduceBEq, Nat.reduceLeDiff, ↓reduceIte, reduceCtorEq, Int.reduceAdd, Int.reduceSub, Int.reduceLT, Int.reduceLE, Int.reduceBEq, Int.reduceEq, Int.reduceToNat, ir19]
  refine GCall.of (there_ok ht (.inr hR1)).any ?_
  rintro v h1 ⟨rfl, rfl⟩
  simp -implicitDefEqProofs (disch := (first | omega | (simp -implicitDefEqProofs only [szs, ne_eq] <;> omega) | fail)) only [go_sem, Nat.reduceAdd, Nat.reduceSub, Nat.reduceMul, Nat.reduceLT, Nat.reduceMod, Nat.reduceDiv, Nat.reduceEqDiff, Nat.reduceBEq, Nat.reduceLeDiff, ↓reduceIte, reduceCtorEq, Int.reduceAdd, Int.reduceSub, Int.reduceLT, Int.reduceLE, Int.reduceBEq, Int.reduceEq, Int.reduceToNat, t1, t2, t5, rangeV, m1, hR1, Try.underlying62]
  generalize hg0 : h1.push (.iter (some r) ck [] ck) = g0
  have hn0 : g0.n = h1.n + 1 := by rw [← hg0]; rfl
  refine ⟨.inr hR2, GLoop.inv hm (fun k f g => f.mks = [] ∧ f.tm.n = 31 ∧ f.tm.get 1 = some (.int .i64 fr) ∧ f.tm.get 15 = some (.ptr (some (h1.n, 0))) ∧ h1.n + 1 ≤ g.n ∧ (∀ b, b < h1.n → g.get b = h1.get b) ∧
    ∃ l seen lv, Seen es seen l ∧ l.length + k = es.length ∧ g.get h1.n = some (.iter (some r) ck seen ck) ∧ f.tm.get 5 = some lv ∧ OwnS 2 (h1.n + 1) g lv (colL fr l).length (spV (colL fr l)) 50 ∧ (colL fr l = [] → lv = .slice none 0 0 true)) es.length ?_ ?_⟩
  · exact ⟨rfl, rfl, rfl, rfl, by omega, fun b hb => by rw [← hg0, w_push_ne (by omega)], [], [], _, Seen.nil es, by simp, by rw [← hg0, w_push_eq rfl], rfl, OwnS.nil _ _ _ _, fun _ => rfl⟩
  rintro k ⟨⟨m, tr⟩, mks⟩ g ⟨hmk, hn, u1, t15, hgn, hgo, l, seen, lv, hs, hlk, hit, t5', ho, hnil⟩
  simp only [Tm.get_mk] at hmk hn u1 t15 t5'
  subst hmk hn
  have hgr : g.get r = some (.map es ck) := by rw [hgo r hlt.2.1]; exact m1
  simp -implicitDefEqProofs (disch := (first | omega | (simp -implicitDefEqProofs only [szs, ne_eq] <;> omega) | fail)) only [go_sem, Nat.reduceAdd, Nat.reduceSub, Nat.reduceMul, Nat.reduceLT, Nat.reduceMod, Nat.reduceDiv, Nat.reduceEqDiff, Nat.reduceBEq, Nat.reduceLeDiff, ↓reduceIte, reduceCtorEq, Int.reduceAdd, Int.reduceSub, Int.reduceLT, Int.reduceLE, Int.reduceBEq, Int.reduceEq, Int.reduceToNat, ir19_l0, t15, SNext, hit, hgr]
  refine ⟨.inr hR2, ?_, ?_, ?_⟩
  · cases es with
    | nil => exact .inr (.inl rfl)
    | cons e es => exact .inr (.inr ⟨e, by simp, m2.ok.lt e (by simp)⟩)
  · intro hall
    have hp := hs.last m2.ok fun e he => hall e he (m2.ok.lt e he)
    obtain ⟨zs, hzs⟩ := fin_of (l := colL fr l) fun i hi => col_lt m2 m3 (fun e he => hs.sub e he) hi
    have hzl : zs.length = (colL fr l).length := by rw [← hzs, List.length_map]
    simp -implicitDefEqProofs (disch := (first | omega | (simp -implicitDefEqProofs only [szs, ne_eq] <;> omega) | fail)) only [go_sem, Nat.reduceAdd, Nat.reduceSub, Nat.reduceMul, Nat.reduceLT, Nat.reduceMod, Nat.reduceDiv, Nat.reduceEqDiff, Nat.reduceBEq, Nat.reduceLeDiff, ↓reduceIte, reduceCtorEq, Int.reduceAdd, Int.reduceSub, Int.reduceLT, Int.reduceLE, Int.reduceBEq, Int.reduceEq, Int.reduceToNat, t5']
    by_cases h0 : colL fr l = []
    · have hlv := hnil h0
      subst hlv
      refine GCall.of (sort_none _ _ _).any ?_
      rintro v g2 ⟨rfl, rfl⟩
      have hsp : spots T fr 512 = [] := by
        have := col_sorted m2 m3 hp hzs (List.Perm.refl _) (zs' := zs) (by
          rw [h0] at hzl
          rw [List.length_eq_zero_iff.1 hzl]; exact List.Pairwise.nil)
        rw [← this, hzs, h0]
      simp -implicitDefEqProofs (disch := (first | omega | (simp -implicitDefEqProofs only [szs, ne_eq] <;> omega) | fail)) only [go_sem, Nat.reduceAdd, Nat.reduceSub, Nat.reduceMul, Nat.reduceLT, Nat.reduceMod, Nat.reduceDiv, Nat.reduceEqDiff, Nat.reduceBEq, Nat.reduceLeDiff, ↓reduceIte, reduceCtorEq, Int.reduceAdd, Int.reduceSub, Int.reduceLT, Int.reduceLE, Int.reduceBEq, Int.reduceEq, Int.reduceToNat, t5']
      rw [hsp]
      exact ⟨OwnS.nil _ _ _ _, by omega, hgo⟩
    · have hpos : 0 < (colL fr l).length := List.length_pos_iff.2 h0
      obtain ⟨hl2, ⟨hz, _⟩ | ⟨b, x, cb, hne, rfl, hb0, hb, hsz, hro, hgt⟩⟩ := ho
      · omega
      have hsm := col_len m2 m3 fr (fun e he => hs.sub e he) hs.nodup_l
      have hzc : ∀ j, j < zs.length * 2 → cb.get j = (flP spI1 spI2 zs).getD j undefV := fun j hj => by
        have := Blk.gets_get cb ((colL fr l).length * 2) 0 j (by omega)
        rw [hgt, Nat.zero_add] at this
        rw [flP_spV, hzs, List.getD_eq_getElem?_getD, this]; rfl
      have hso := sortW_ok hb zs (by omega) hzc hro (by omega) (colL fr l).length x
      rw [hzl] at hso
      refine GCall.of ((hso.foot (R' := fun b => h1.n ≤ b ∨ R b) (W' := fun b => h1.n ≤ b ∨ W b) (fun b' hb' => .inr (hR b')) (fun b' hb' => .inl (by omega))).any) ?_
      rintro v g2 ⟨rfl, zs', p1, p2, rfl⟩
      have hsp := col_sorted m2 m3 hp hzs p1 p2
      have hln : (spots T fr 512).length = (colL fr l).length := by rw [← hsp, List.length_map, p1.length_eq, hzl]
      simp -implicitDefEqProofs (disch := (first | omega | (simp -implicitDefEqProofs only [szs, ne_eq] <;> omega) | fail)) only [go_sem, Nat.reduceAdd, Nat.reduceSub, Nat.reduceMul, Nat.reduceLT, Nat.reduceMod, Nat.reduceDiv, Nat.reduceEqDiff, Nat.reduceBEq, Nat.reduceLeDiff, ↓reduceIte, reduceCtorEq, Int.reduceAdd, Int.reduceSub, Int.reduceLT, Int.reduceLE, Int.reduceBEq, Int.reduceEq, Int.reduceToNat, t5']
      have hbl := Heap.lt_of_get hb
      rw [hln, ← hsp, ← flP_spV]
      refine ⟨⟨by rw [flP_len, p1.length_eq, hzl], .inr ⟨b, x, _, hne, rfl, by omega, w_set_eq hbl rfl _, by rw [Blk.size_puts]; exact hsz, by rw [Blk.ro_puts]; exact hro, puts_gets _ _ (by rw [flP_len, p1.length_eq, hzl])⟩⟩, by omega, fun b' hb' => by rw [w_set_ne hbl (by omega)]; exact hgo b' hb'⟩
  · intro e he hns
    have hs' := hs.step he hns
    have hle := hs'.length
    obtain ⟨gX, eX, nX, bX, kX⟩ : ∃ gX, g.set h1.n (.iter (some r) ck (seen ++ [e.2.2]) ck) = gX ∧ gX.n = g.n ∧ gX.get h1.n = some (.iter (some r) ck (seen ++ [e.2.2]) ck) ∧ ∀ b, b ≠ h1.n → gX.get b = g.get b := ⟨_, rfl, by simp, w_set_eq (by omega) rfl _, fun b hb => w_set_ne (by omega) hb _⟩
    have hE := entry_at (g := gX) (b := h1.n) bX (by rw [kX _ (by omega)]; exact hgr) m2.ok he
    obtain ⟨a, q, x, ha, hq, hk, hT, hv⟩ := ent_ok m2 m3 he
    have hsn := colL_snoc fr l e
    have hidx : idxP (keyP e.1) = a * 32 + q := by rw [hk]; simp [idxP, keyP, kp]
    have hvi : valI e.2.1 = x.f := by rw [hv]; rfl
    rw [hidx, hvi] at hsn
    rw [hk, hv, kp] at hE
    rw [List.length_append, List.length_singleton] at hle
    obtain ⟨h3, e3, n3, b3, k3⟩ : ∃ h3, (gX.push (O.cells (Blk.of [V.int IntKind.i64 0, V.int IntKind.i64 0]) 50)).set g.n (O.cells (((Blk.of [V.int IntKind.i64 0, V.int IntKind.i64 0]).set 0 (V.int IntKind.i64 (a : Int))).set 1 (V.int IntKind.i64 (q : Int))) 50) = h3 ∧ h3.n = gX.n + 1 ∧
      (∃ d, h3.get g.n = some (.cells d 50) ∧ d.size = 2 ∧ d.get 0 = .int .i64 (a : Int) ∧ d.get 1 = .int .i64 (q : Int)) ∧ ∀ b, b < gX.n → h3.get b = gX.get b := ⟨_, rfl, by simp, ⟨_, w_set_eq (by simp; omega) rfl _, rfl, by simp -implicitDefEqProofs (disch := (first | omega | (simp -implicitDefEqProofs only [szs, ne_eq] <;> omega) | fail)) only [go_sem, Nat.reduceAdd, Nat.reduceSub, Nat.reduceMul, Nat.reduceLT, Nat.reduceMod, Nat.reduceDiv, Nat.reduceEqDiff, Nat.reduceBEq, Nat.reduceLeDiff, ↓reduceIte, reduceCtorEq, Int.reduceAdd, Int.reduceSub, Int.reduceLT, Int.reduceLE, Int.reduceBEq, Int.reduceEq, Int.reduceToNat], by simp -implicitDefEqProofs (disch := (first | omega | (simp -implicitDefEqProofs only [szs, ne_eq] <;> omega) | fail)) only [go_sem, Nat.reduceAdd, Nat.reduceSub, Nat.reduceMul, Nat.reduceLT, Nat.reduceMod, Nat.reduceDiv, Nat.reduceEqDiff, Nat.reduceBEq, Nat.reduceLeDiff, ↓reduceIte, reduceCtorEq, Int.reduceAdd, Int.reduceSub, Int.reduceLT, Int.reduceLE, Int.reduceBEq, Int.reduceEq, Int.reduceToNat]⟩, fun b hb => by rw [w_set_ne (by simp; omega) (by omega), w_push_ne (by omega)]⟩
    obtain ⟨d, b3, f1, f2, f3⟩ := b3
    have hoX : OwnS 2 (h1.n + 1) h3 lv (colL fr l).length (spV (colL fr l)) 50 := ho.keep fun b c hb hb0 => by
      rw [k3 b (by rw [nX]; exact Heap.lt_of_get hb), kX b (by omega)]; exact hb
    have hk3 : ∀ b, b < h1.n → h3.get b = h1.get b := fun b hb => by rw [k3 b (by omega), kX b (by omega)]; exact hgo b hb
    by_cases hxf : x.f = fr
    · rw [if_pos hxf] at hsn
      have hfe : (x.f == fr) = true := by simp [hxf]
      have hcl := col_len m2 m3 fr (fun e he => hs.sub e he) hs.nodup_l
      obtain ⟨v2, g6, r2, w2, hap, o2, m2', k2', hw2, kk, hty, _⟩ := app_ownS (n0 := h1.n + 1) (h := h3.push (.cells (Blk.of [.int .i64 a, .int .i64 q]) 50)) (v := lv) (x := .slice (some (h3.n, 0)) 1 1 true) (n := (colL fr l).length) (m := 1) (l := spV (colL fr l)) (news := [.int .i64 a, .int .i64 q]) (rs := [h3.n]) (e := 50) (sz := 2) (bytes := 16) (hoX.old fun b hb => by rw [w_push_ne (by omega)]) (by simp; omega) rfl (firstS (e := 50) (w_push_eq rfl _) (by simp [w_of_size]) (gets_all _ rfl)) rfl rfl (by omega) (by omega) (by omega)
      have hcv := o2.lr.cells
      have hon := o2.lr.one
      have hr2 : allB (fun b => h1.n ≤ b ∨ R b) r2 := allB_of fun b _ => .inr (hR b)
      have hw2' : allB (fun b => h1.n ≤ b ∨ W b) w2 := allB_of fun b hb => .inl (by have := hw2 b hb; omega)
      have m3' : h3.n + 1 ≤ g6.n := by simpa using m2'
      simp -implicitDefEqProofs (disch := (first | omega | (simp -implicitDefEqProofs only [szs, ne_eq] <;> omega) | fail)) only [go_sem, Nat.reduceAdd, Nat.reduceSub, Nat.reduceMul, Nat.reduceLT, Nat.reduceMod, Nat.reduceDiv, Nat.reduceEqDiff, Nat.reduceBEq, Nat.reduceLeDiff, ↓reduceIte, reduceCtorEq, Int.reduceAdd, Int.reduceSub, Int.reduceLT, Int.reduceLE, Int.reduceBEq, Int.reduceEq, Int.reduceToNat, eX, hE, u1, t15, t5', e3, hfe, b3, f1, f2, f3, appendV_of ap_46, hap, hr2, hw2', ↓hcv, ↓hon]
      exact ⟨.inr hR2, .inl (by omega), .inl (by omega), k - 1, by omega, by omega, fun b hb => by rw [k2' b (by omega), w_push_ne (by omega)]; exact hk3 b hb, l ++ [e], _, v2, hs', by simp; omega, by rw [kk h1.n (by simp; omega) (fun hm => by have := hw2 _ hm; omega), w_push_ne (by omega), k3 _ (by omega)]; exact bX, rfl, by rw [hsn, List.length_append, spV_snoc, show (a * 32 + q) / 32 = a by omega, show (a * 32 + q) % 32 = q by omega]; exact o2, fun h0 => by rw [hsn] at h0; simp at h0⟩
    · rw [if_neg hxf] at hsn
      have hfe : (x.f == fr) = false := by simpa using hxf
      simp -implicitDefEqProofs (disch := (first | omega | (simp -implicitDefEqProofs only [szs, ne_eq] <;> omega) | fail)) only [go_sem, Nat.reduceAdd, Nat.reduceSub, Nat.reduceMul, Nat.reduceLT, Nat.reduceMod, Nat.reduceDiv, Nat.reduceEqDiff, Nat.reduceBEq, Nat.reduceLeDiff, ↓reduceIte, reduceCtorEq, Int.reduceAdd, Int.reduceSub, Int.reduceLT, Int.reduceLE, Int.reduceBEq, Int.reduceEq, Int.reduceToNat, eX, hE, u1, t15, t5', e3, hfe]
      exact ⟨.inr hR2, .inl (by omega), k - 1, by omega, by omega, hk3, l ++ [e], _, lv, hs', by simp; omega, by rw [k3 _ (by omega)]; exact bX, rfl, by rw [hsn]; exact hoX, fun h0 => by rw [hsn] at h0; exact hnil h0⟩
theorem count_dem {h : Heap} {R W : Set'} {tb r : Nat} {T : Tb} (ht : TabAt h tb r T) (hR : ∀ b, R b) (fr : Int) :
    SF ⟨Try.prog, true⟩ 20 [.ptr (some (tb, 0)), .int .i64 fr] h R W fun v h' => v = .int .i64 ((spots T fr 512).length : Nat) ∧ h.n ≤ h'.n ∧ ∀ b, b < h.n → h'.get b = h.get b := by
  refine SF.go hm Try.func20 ir20_eq ?_
  simp -implicitDefEqProofs (disch := (first | omega | (simp -implicitDefEqProofs only [szs, ne_eq] <;> omega) | fail)) only [go_sem, Nat.reduceAdd, Nat.reduceSub, Nat.reduceMul, Nat.reduceLT, Nat.reduceMod, Nat.reduceDiv, Nat.reduceEqDiff, Nat.reduceBEq, Nat.reduceLeDiff, ↓reduceIte, reduceCtorEq, Int.reduceAdd, Int.reduceSub, Int.reduceLT, Int.reduceLE, Int.reduceBEq, Int.reduceEq, Int.reduceToNat, ir20]
  refine GCall.of (where_dem ht (fun b => .inr (hR b)) fr) ?_
  rintro v g ⟨ho, hn, hk⟩
  have hl := ho.lr.lenV Try.underlying46
  simp -implicitDefEqProofs (disch := (first | omega | (simp -implicitDefEqProofs only [szs, ne_eq] <;> omega) | fail)) only [go_sem, Nat.reduceAdd, Nat.reduceSub, Nat.reduceMul, Nat.reduceLT, Nat.reduceMod, Nat.reduceDiv, Nat.reduceEqDiff, Nat.reduceBEq, Nat.reduceLeDiff, ↓reduceIte, reduceCtorEq, Int.reduceAdd, Int.reduceSub, Int.reduceLT, Int.reduceLE, Int.reduceBEq, Int.reduceEq, Int.reduceToNat, ↓hl]
  exact ⟨hn, hk⟩
end Go.Proofs.Ytkfhdaimememiaa
