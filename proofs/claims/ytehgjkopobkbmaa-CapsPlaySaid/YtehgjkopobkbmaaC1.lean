/- A table of capabilities: where it lies; New, account, rights, add. -/
import Derived.Test.YtehgjkopobkbmaaS2
import Derived.Test.YtehgjkopobkbmaaM
set_option linter.unusedVariables false
set_option linter.unusedSimpArgs false
set_option linter.unusedSimpArgs false
set_option maxRecDepth 100000
set_option linter.unusedVariables false
set_option linter.unusedSimpArgs false
namespace Go.Proofs.Ytehgjkopobkbmaa
open Go Go.Vm
/-- A capability. -/
structure Cp where
  id : Int
  par : Int
  ac : Int
  mr : Int
  kd : Int
  ob : Int
  rt : Int
deriving DecidableEq
def Cp.l (c : Cp) : List V := [.int .i64 c.id, .int .i64 c.par, .int .i64 c.ac, .int .i64 c.mr, .int .i64 c.kd, .int .i64 c.ob, .int .i64 c.rt]
def Cp.v (c : Cp) : V := .agg c.l
def cp0 : Cp := ⟨0, 0, 0, 0, 0, 0, 0⟩
def findC (L : List Cp) (k : Int) : Option Cp := L.find? fun c => decide (c.id = k)
/-- A table: its capabilities by their ids, the last id. -/
structure CS where
  L : List Cp
  last : Int
structure CapAt (h : Heap) (tb r : Nat) (T : CS) : Prop where
  t : ∃ c, h.get tb = some (.cells c 61) ∧ c.size = 2 ∧ c.ro = false ∧ c.get 0 = .map (some r) ∧ c.get 1 = .int .i64 T.last
  m : ∃ es ck, h.get r = some (.map es ck) ∧ IMap es ck ∧ ∀ k, getI es k = (findC T.L k).map Cp.v
/-- The laws of a table's numbers. -/
structure WF (T : CS) : Prop where
  asc : T.L.Pairwise fun a b => a.id < b.id
  ids : ∀ c ∈ T.L, 1 ≤ c.id ∧ c.id ≤ T.last
  last : 0 ≤ T.last ∧ T.last ≤ 1000000
  par : ∀ c ∈ T.L, 0 ≤ c.par ∧ c.par < c.id
theorem WF.len {T : CS} (w : WF T) : (T.L.length : Int) ≤ T.last := by
  have : ∀ (l : List Cp) (a b : Int), l.Pairwise (fun a b => a.id < b.id) → (∀ c ∈ l, a < c.id ∧ c.id ≤ b) → a ≤ b → (l.length : Int) ≤ b - a := by
    intro l
    induction l with
    | nil => intro a b _ _ h; simp; omega
    | cons x l ih =>
      intro a b hp hb hab
      rw [List.pairwise_cons] at hp
      have hx := hb x (by simp)
      have := ih x.id b hp.2 (fun c hc => ⟨hp.1 c hc, (hb c (by simp [hc])).2⟩) hx.2
      simp only [List.length_cons]; omega
  have := this T.L 0 T.last w.asc (fun c hc => by have := w.ids c hc; omega) w.last.1
  omega
theorem findC_some {L : List Cp} {k : Int} {c : Cp} (h : findC L k = some c) : c ∈ L ∧ c.id = k := ⟨List.mem_of_find?_eq_some h, by simpa using List.find?_some h⟩
theorem findC_none {L : List Cp} {k : Int} (h : findC L k = none) : ∀ c ∈ L, c.id ≠ k := fun c hc => by simpa using List.find?_eq_none.1 h c hc
theorem findC_mem {L : List Cp} (hp : L.Pairwise fun a b => a.id < b.id) {c : Cp} (hc : c ∈ L) : findC L c.id = some c := by
  induction L with
  | nil => cases hc
  | cons x L ih =>
    rw [List.pairwise_cons] at hp
    unfold findC
    rw [List.find?_cons]
    rcases List.mem_cons.1 hc with rfl | hc
    · simp
    · have := hp.1 c hc
      rw [decide_eq_false (by omega)]
      exact ih hp.2 hc
theorem findC_append (L : List Cp) (c : Cp) (k : Int) : findC (L ++ [c]) k = match findC L k with | some x => some x | none => if c.id = k then some c else none := by
  unfold findC
  rw [List.find?_append]
  cases h : L.find? fun c => decide (c.id = k) with
  | some x => simp
  | none => by_cases hk : c.id = k <;> simp [hk]
theorem getI_mem' {es : Ents} {k : Int} {v : V} (h : getI es k = some v) : ∃ e ∈ es, keyI e.1 = k ∧ e.2.1 = v := by
  induction es with
  | nil => cases h
  | cons e es ih =>
    unfold getI at h
    split at h
    · rename_i hk
      exact ⟨e, by simp, hk, Option.some.inj h⟩
    · obtain ⟨e', h1, h2⟩ := ih h
      exact ⟨e', by simp [h1], h2⟩
theorem getI_of_mem : ∀ {es : Ents} {e : V × V × Nat}, (es.map fun e => keyI e.1).Nodup → e ∈ es → getI es (keyI e.1) = some e.2.1
  | [], _, _, h => by cases h
  | x :: r, e, hn, h => by
    rw [List.map_cons, List.nodup_cons] at hn
    rcases List.mem_cons.1 h with rfl | h
    · exact getI_hit _ rfl
    · rw [getI_miss _ (fun e' => hn.1 (by rw [e']; exact List.mem_map.2 ⟨e, h, rfl⟩))]
      exact getI_of_mem hn.2 h
theorem pairs_perm {es : Ents} {ck : Nat} {L : List Cp} (hi : IMap es ck) (hp : L.Pairwise fun a b => a.id < b.id) (hg : ∀ k, getI es k = (findC L k).map Cp.v) : (es.map fun e => (keyI e.1, e.2.1)).Perm (L.map fun c => (c.id, c.v)) := by
  have n1 : (es.map fun e => (keyI e.1, e.2.1)).Nodup := nodup_of_map (f := Prod.fst) (by rw [List.map_map]; exact hi.keys)
  have n2 : (L.map fun c => (c.id, c.v)).Nodup := nodup_of_map (f := Prod.fst) (by rw [List.map_map]; exact List.pairwise_map.2 (hp.imp fun h => Int.ne_of_lt h))
  refine (List.perm_ext_iff_of_nodup n1 n2).2 fun ⟨k, v⟩ => ?_
  constructor
  · intro hm
    obtain ⟨e, he, e1⟩ := List.mem_map.1 hm
    have := getI_of_mem hi.keys he
    rw [hg] at this
    cases hf : findC L (keyI e.1) with
    | none => rw [hf] at this; cases this
    | some c =>
      rw [hf] at this
      obtain ⟨hc, hk⟩ := findC_some hf
      refine List.mem_map.2 ⟨c, hc, ?_⟩
      rw [← e1, hk, Option.some.inj this]
  · intro hm
    obtain ⟨c, hc, e1⟩ := List.mem_map.1 hm
    have := hg c.id
    rw [findC_mem hp hc] at this
    obtain ⟨e, he, h1, h2⟩ := getI_mem' this
    exact List.mem_map.2 ⟨e, he, by rw [h1, h2, ← e1]⟩
theorem map_len {es : Ents} {ck : Nat} {L : List Cp} (hi : IMap es ck) (hp : L.Pairwise fun a b => a.id < b.id) (hg : ∀ k, getI es k = (findC L k).map Cp.v) : es.length = L.length := by
  have := (pairs_perm hi hp hg).length_eq
  simpa using this
theorem CapAt.table {h : Heap} {tb r : Nat} {T : CS} (ht : CapAt h tb r T) (w : WF T) : ∃ es ck, TableAt h tb r es ck ∧ IMap es ck ∧ (∀ k, getI es k = (findC T.L k).map Cp.v) ∧ ∀ a, madeBy a es = (T.L.filter fun c => decide (c.mr = a)).length := by
  obtain ⟨c, t1, t2, t3, t4, t5⟩ := ht.t
  obtain ⟨es, ck, m1, m2, m3⟩ := ht.m
  have hpp := pairs_perm m2 w.asc m3
  refine ⟨es, ck, ⟨⟨c, t1, t2, t4⟩, m1, m2.ok, fun e he => ?_, ?_⟩, m2, m3, fun a => ?_⟩
  · have := getI_of_mem m2.keys he
    rw [m3] at this
    cases hf : findC T.L (keyI e.1) with
    | none => rw [hf] at this; cases this
    | some c => rw [hf] at this; rw [← Option.some.inj this]; rfl
  · have := map_len m2 w.asc m3
    have := w.len
    have := w.last
    omega
  · have this : (es.map fun e => e.2.1).Perm (T.L.map fun c => c.v) := by
      have := hpp.map Prod.snd
      rw [List.map_map, List.map_map] at this
      exact this
    have e1 : madeBy a es = ((es.map fun e => e.2.1).filter fun v => makerOf v == a).length := by
      rw [List.filter_map, List.length_map]; rfl
    rw [e1, ((this.filter fun v => makerOf v == a)).length_eq]
    rw [List.filter_map, List.length_map]
    rfl
theorem CapAt.same {h h' : Heap} {tb r : Nat} {T : CS} (ht : CapAt h tb r T) (hk : ∀ b, b = tb ∨ b = r → h'.get b = h.get b) : CapAt h' tb r T := by
  obtain ⟨⟨c, t1, t2⟩, es, ck, m1, m2⟩ := ht
  exact ⟨⟨c, by rw [hk _ (.inl rfl)]; exact t1, t2⟩, es, ck, by rw [hk _ (.inr rfl)]; exact m1, m2⟩
theorem CapAt.lt {h : Heap} {tb r : Nat} {T : CS} (ht : CapAt h tb r T) : tb < h.n ∧ r < h.n ∧ tb ≠ r := by
  obtain ⟨⟨c, t1, t2⟩, es, ck, m1, m2⟩ := ht
  exact ⟨Heap.lt_of_get t1, Heap.lt_of_get m1, fun e => by rw [e, m1] at t1; cases t1⟩
theorem CapAt.old {h h' : Heap} {tb r : Nat} {T : CS} (ht : CapAt h tb r T) (hk : ∀ b, b < h.n → h'.get b = h.get b) : CapAt h' tb r T := ht.same fun b hb => hk b (by have := ht.lt; omega)
theorem there_ok {h : Heap} {R W : Set'} {tb r : Nat} {T : CS} (ht : CapAt h tb r T) (hR : R tb) : SF Try.prog 33 [.ptr (some (tb, 0))] h R W fun v h' => v = .bool true ∧ h' = h := by
  obtain ⟨c, t1, t2, t3, t4, t5⟩ := ht.t
  refine SF.go hm Try.func33 ir33_eq ?_
  simp -implicitDefEqProofs (disch := (first | omega | (simp -implicitDefEqProofs only [szs, ne_eq] <;> omega) | fail)) only [go_sem, Nat.reduceAdd, Nat.reduceSub, Nat.reduceMul, Nat.reduceLT, Nat.reduceMod, Nat.reduceDiv, Nat.reduceEqDiff, Nat.reduceBEq, Nat.reduceLeDiff, ↓reduceIte, reduceCtorEq, Int.reduceAdd, Int.reduceSub, Int.reduceLT, Int.reduceLE, Int.reduceBEq, Int.reduceEq, Int.reduceToNat, ir33, t1, t2, t4, hR]
theorem new_ok {h : Heap} {R W : Set'} : SF Try.prog 10 [] h R W fun v h' => v = .ptr (some (h.n + 1, 0)) ∧ CapAt h' (h.n + 1) h.n ⟨[], 0⟩ ∧ h'.n = h.n + 2 ∧ ∀ b, b < h.n → h'.get b = h.get b := by
  refine SF.go hm Try.func10 ir10_eq ?_
  simp -implicitDefEqProofs (disch := (first | omega | (simp -implicitDefEqProofs only [szs, ne_eq] <;> omega) | fail)) only [go_sem, Nat.reduceAdd, Nat.reduceSub, Nat.reduceMul, Nat.reduceLT, Nat.reduceMod, Nat.reduceDiv, Nat.reduceEqDiff, Nat.reduceBEq, Nat.reduceLeDiff, ↓reduceIte, reduceCtorEq, Int.reduceAdd, Int.reduceSub, Int.reduceLT, Int.reduceLE, Int.reduceBEq, Int.reduceEq, Int.reduceToNat, ir10]
  exact ⟨⟨⟨_, w_push_eq (by simp) _, rfl, rfl, rfl, rfl⟩, [], 0, by simp -implicitDefEqProofs (disch := (first | omega | (simp -implicitDefEqProofs only [szs, ne_eq] <;> omega) | fail)) only [go_sem, Nat.reduceAdd, Nat.reduceSub, Nat.reduceMul, Nat.reduceLT, Nat.reduceMod, Nat.reduceDiv, Nat.reduceEqDiff, Nat.reduceBEq, Nat.reduceLeDiff, ↓reduceIte, reduceCtorEq, Int.reduceAdd, Int.reduceSub, Int.reduceLT, Int.reduceLE, Int.reduceBEq, Int.reduceEq, Int.reduceToNat], IMap.nil, fun k => rfl⟩, fun b hb => by simp -implicitDefEqProofs (disch := (first | omega | (simp -implicitDefEqProofs only [szs, ne_eq] <;> omega) | fail)) only [go_sem, Nat.reduceAdd, Nat.reduceSub, Nat.reduceMul, Nat.reduceLT, Nat.reduceMod, Nat.reduceDiv, Nat.reduceEqDiff, Nat.reduceBEq, Nat.reduceLeDiff, ↓reduceIte, reduceCtorEq, Int.reduceAdd, Int.reduceSub, Int.reduceLT, Int.reduceLE, Int.reduceBEq, Int.reduceEq, Int.reduceToNat]⟩
theorem account_ok {h : Heap} {R W : Set'} (a : Int) : SF Try.prog 34 [.int .i64 a] h R W fun v h' => v = .bool (decide (0 ≤ a ∧ a < 8)) ∧ h' = h := by
  refine SF.go hm Try.func34 ir34_eq ?_
  by_cases h0 : 0 ≤ a
  · simp -implicitDefEqProofs (disch := (first | omega | (simp -implicitDefEqProofs only [szs, ne_eq] <;> omega) | fail)) only [go_sem, Nat.reduceAdd, Nat.reduceSub, Nat.reduceMul, Nat.reduceLT, Nat.reduceMod, Nat.reduceDiv, Nat.reduceEqDiff, Nat.reduceBEq, Nat.reduceLeDiff, ↓reduceIte, reduceCtorEq, Int.reduceAdd, Int.reduceSub, Int.reduceLT, Int.reduceLE, Int.reduceBEq, Int.reduceEq, Int.reduceToNat, ir34, undefV]
    congr 1
    exact decide_eq_decide.2 (by omega)
  · simp -implicitDefEqProofs (disch := (first | omega | (simp -implicitDefEqProofs only [szs, ne_eq] <;> omega) | fail)) only [go_sem, Nat.reduceAdd, Nat.reduceSub, Nat.reduceMul, Nat.reduceLT, Nat.reduceMod, Nat.reduceDiv, Nat.reduceEqDiff, Nat.reduceBEq, Nat.reduceLeDiff, ↓reduceIte, reduceCtorEq, Int.reduceAdd, Int.reduceSub, Int.reduceLT, Int.reduceLE, Int.reduceBEq, Int.reduceEq, Int.reduceToNat, ir34, undefV]
    congr 1
    exact (decide_eq_false (by omega)).symm
theorem rights_ok {h : Heap} {R W : Set'} (a : Int) : SF Try.prog 35 [.int .i64 a] h R W fun v h' => v = .bool (decide (1 ≤ a ∧ a ≤ 15)) ∧ h' = h := by
  refine SF.go hm Try.func35 ir35_eq ?_
  by_cases h0 : 1 ≤ a
  · simp -implicitDefEqProofs (disch := (first | omega | (simp -implicitDefEqProofs only [szs, ne_eq] <;> omega) | fail)) only [go_sem, Nat.reduceAdd, Nat.reduceSub, Nat.reduceMul, Nat.reduceLT, Nat.reduceMod, Nat.reduceDiv, Nat.reduceEqDiff, Nat.reduceBEq, Nat.reduceLeDiff, ↓reduceIte, reduceCtorEq, Int.reduceAdd, Int.reduceSub, Int.reduceLT, Int.reduceLE, Int.reduceBEq, Int.reduceEq, Int.reduceToNat, ir35, undefV]
    congr 1
    exact decide_eq_decide.2 (by omega)
  · simp -implicitDefEqProofs (disch := (first | omega | (simp -implicitDefEqProofs only [szs, ne_eq] <;> omega) | fail)) only [go_sem, Nat.reduceAdd, Nat.reduceSub, Nat.reduceMul, Nat.reduceLT, Nat.reduceMod, Nat.reduceDiv, Nat.reduceEqDiff, Nat.reduceBEq, Nat.reduceLeDiff, ↓reduceIte, reduceCtorEq, Int.reduceAdd, Int.reduceSub, Int.reduceLT, Int.reduceLE, Int.reduceBEq, Int.reduceEq, Int.reduceToNat, ir35, undefV]
    congr 1
    exact (decide_eq_false (by omega)).symm
def madeC (L : List Cp) (a : Int) : Nat := (L.filter fun c => decide (c.mr = a)).length
/-- What add answers, and leaves. -/
def addT (T : CS) (c : Cp) : CS := if 32 ≤ madeC T.L c.mr then T else ⟨T.L ++ [{ c with id := T.last + 1 }], T.last + 1⟩
def addI (T : CS) (c : Cp) : Int := if 32 ≤ madeC T.L c.mr then 0 else T.last + 1
def addE (T : CS) (c : Cp) : Int := if 32 ≤ madeC T.L c.mr then 5 else 0
set_option maxHeartbeats 1000000 in
theorem add_ok {h : Heap} {R W : Set'} {tb r : Nat} {T : CS} (ht : CapAt h tb r T) (w : WF T) (hR : ∀ b, b = tb ∨ b = r → R b) (hW : ∀ b, b = tb ∨ b = r → W b) (c : Cp) (hc : c.id = 0) :
    SF Try.prog 43 [.ptr (some (tb, 0)), c.v] h R W fun v h' => v = .tuple [.int .i64 (addI T c), .int .i64 (addE T c)] ∧ CapAt h' tb r (addT T c) := by
  obtain ⟨id, par, ac, mk, kd, ob, rt⟩ := c
  have hc : id = 0 := hc
  subst hc
  obtain ⟨l1, l2, l3⟩ := ht.lt
  obtain ⟨es, ck, htab, m2, m3, hmade⟩ := ht.table w
  have m1 := htab.m
  have hwl := w.last
  have hwn := w.len
  have hmc := hmade mk
  have hR1 := hR tb (.inl rfl)
  have hR2 := hR r (.inr rfl)
  have hW1 := hW tb (.inl rfl)
  have hW2 := hW r (.inr rfl)
  refine SF.go hm Try.func43 ir43_eq ?_
  obtain ⟨h2, e2, n2, g2, k2⟩ : ∃ h2, h.push (O.cells (Blk.of [V.int IntKind.i64 0, V.int IntKind.i64 par, V.int IntKind.i64 ac, V.int IntKind.i64 mk, V.int IntKind.i64 kd, V.int IntKind.i64 ob, V.int IntKind.i64 rt]) 40) = h2 ∧ h2.n = h.n + 1 ∧ h2.get h.n = some (O.cells (Blk.of [V.int IntKind.i64 0, V.int IntKind.i64 par, V.int IntKind.i64 ac, V.int IntKind.i64 mk, V.int IntKind.i64 kd, V.int IntKind.i64 ob, V.int IntKind.i64 rt]) 40) ∧ ∀ b, b < h.n → h2.get b = h.get b := ⟨_, rfl, by simp, w_push_eq rfl _, fun b hb => w_push_ne (by omega) _⟩
  simp -implicitDefEqProofs (disch := (first | omega | (simp -implicitDefEqProofs only [szs, ne_eq] <;> omega) | fail)) only [go_sem, Nat.reduceAdd, Nat.reduceSub, Nat.reduceMul, Nat.reduceLT, Nat.reduceMod, Nat.reduceDiv, Nat.reduceEqDiff, Nat.reduceBEq, Nat.reduceLeDiff, ↓reduceIte, reduceCtorEq, Int.reduceAdd, Int.reduceSub, Int.reduceLT, Int.reduceLE, Int.reduceBEq, Int.reduceEq, Int.reduceToNat, ir43, Cp.v, Cp.l, e2, g2]
  clear e2
  refine GCall.of ((made_ok (htab.same k2) mk).foot (fun b hb => .inr (hR b hb)) (fun b hb => hb.elim)) ?_
  rintro v h' ⟨rfl, rfl⟩
  rw [hmc]
  have ht2 := ht.old k2
  obtain ⟨ct, t1, t2, t3, t4, t5⟩ := ht2.t
  by_cases h32 : 32 ≤ madeC T.L mk
  · have h32' : 32 ≤ (T.L.filter fun c => decide (c.mr = mk)).length := h32
    simp -implicitDefEqProofs (disch := (first | omega | (simp -implicitDefEqProofs only [szs, ne_eq] <;> omega) | fail)) only [go_sem, Nat.reduceAdd, Nat.reduceSub, Nat.reduceMul, Nat.reduceLT, Nat.reduceMod, Nat.reduceDiv, Nat.reduceEqDiff, Nat.reduceBEq, Nat.reduceLeDiff, ↓reduceIte, reduceCtorEq, Int.reduceAdd, Int.reduceSub, Int.reduceLT, Int.reduceLE, Int.reduceBEq, Int.reduceEq, Int.reduceToNat, addI, addE, addT, h32]
    exact ht2
  · have h32' : ¬ 32 ≤ (T.L.filter fun c => decide (c.mr = mk)).length := h32
    have hlt : tb < h'.n := by omega
    obtain ⟨h3, e3, n3, b3, t3', r3, k3⟩ : ∃ h3, ((h'.set tb (O.cells (ct.set 1 (V.int IntKind.i64 (T.last + 1))) 61)).set h.n (O.cells ((Blk.of [V.int IntKind.i64 0, V.int IntKind.i64 par, V.int IntKind.i64 ac, V.int IntKind.i64 mk, V.int IntKind.i64 kd, V.int IntKind.i64 ob, V.int IntKind.i64 rt]).set 0 (V.int IntKind.i64 (T.last + 1))) 40)) = h3 ∧ h3.n = h'.n ∧ h3.get h.n = some (O.cells ((Blk.of [V.int IntKind.i64 0, V.int IntKind.i64 par, V.int IntKind.i64 ac, V.int IntKind.i64 mk, V.int IntKind.i64 kd, V.int IntKind.i64 ob, V.int IntKind.i64 rt]).set 0 (V.int IntKind.i64 (T.last + 1))) 40) ∧ h3.get tb = some (O.cells (ct.set 1 (V.int IntKind.i64 (T.last + 1))) 61) ∧ h3.get r = some (O.map es ck) ∧ ∀ b, b < h.n → b ≠ tb → h3.get b = h.get b :=
      ⟨_, rfl, by simp, w_set_eq (by simp; omega) rfl _, by rw [w_set_ne (by simp; omega) (by omega), w_set_eq hlt rfl], by rw [w_set_ne (by simp; omega) (by omega), w_set_ne hlt (Ne.symm l3), k2 _ l2]; exact m1, fun b hb hne => by rw [w_set_ne (by simp; omega) (by omega), w_set_ne hlt hne, k2 b hb]⟩
    obtain ⟨es', ck', hu, u1, u2, u3⟩ := upd_int (P := Try.prog) (t := 59) Try.underlying59 Try.underlying2 r3 m2 (T.last + 1) (.agg [V.int IntKind.i64 (T.last + 1), V.int IntKind.i64 par, V.int IntKind.i64 ac, V.int IntKind.i64 mk, V.int IntKind.i64 kd, V.int IntKind.i64 ob, V.int IntKind.i64 rt])
    simp -implicitDefEqProofs (disch := (first | omega | (simp -implicitDefEqProofs only [szs, ne_eq] <;> omega) | fail)) only [go_sem, Nat.reduceAdd, Nat.reduceSub, Nat.reduceMul, Nat.reduceLT, Nat.reduceMod, Nat.reduceDiv, Nat.reduceEqDiff, Nat.reduceBEq, Nat.reduceLeDiff, ↓reduceIte, reduceCtorEq, Int.reduceAdd, Int.reduceSub, Int.reduceLT, Int.reduceLE, Int.reduceBEq, Int.reduceEq, Int.reduceToNat, t1, t2, t3, t4, t5, hR1, hW1, g2, e3, b3, t3', hR2, hW2, hu]
    have hadd : addT T { id := 0, par := par, ac := ac, mr := mk, kd := kd, ob := ob, rt := rt } = ⟨T.L ++ [{ id := T.last + 1, par := par, ac := ac, mr := mk, kd := kd, ob := ob, rt := rt }], T.last + 1⟩ := if_neg h32
    rw [hadd]
    refine ⟨by rw [addI, addE, if_neg h32, if_neg h32], ⟨_, by rw [w_set_ne (by omega) l3]; exact t3', by rw [Blk.size_set]; exact t2, by rw [Blk.ro_set]; exact t3, by simp -implicitDefEqProofs (disch := (first | omega | (simp -implicitDefEqProofs only [szs, ne_eq] <;> omega) | fail)) only [go_sem, Nat.reduceAdd, Nat.reduceSub, Nat.reduceMul, Nat.reduceLT, Nat.reduceMod, Nat.reduceDiv, Nat.reduceEqDiff, Nat.reduceBEq, Nat.reduceLeDiff, ↓reduceIte, reduceCtorEq, Int.reduceAdd, Int.reduceSub, Int.reduceLT, Int.reduceLE, Int.reduceBEq, Int.reduceEq, Int.reduceToNat, t4], w_bset_eq rfl _⟩, es', ck', w_set_eq (by omega) rfl _, u1, fun k => ?_⟩
    rw [u2, findC_append, m3]
    have hno : findC T.L (T.last + 1) = none := by
      cases hf : findC T.L (T.last + 1) with
      | none => rfl
      | some x =>
        obtain ⟨hx, hk⟩ := findC_some hf
        have := (w.ids x hx).2
        omega
    by_cases hk : k = T.last + 1
    · subst hk
      rw [if_pos rfl, hno]
      simp [Cp.v, Cp.l]
    · rw [if_neg hk]
      cases findC T.L k with
      | some x => rfl
      | none => simp [Ne.symm hk]
theorem WF.add {T : CS} (w : WF T) {c : Cp} (hp : 0 ≤ c.par ∧ c.par ≤ T.last) (hl : T.last < 1000000) : WF (addT T c) := by
  unfold addT
  split
  · exact w
  · refine ⟨?_, fun x hx => ?_, ?_, fun x hx => ?_⟩
    · show (T.L ++ [_]).Pairwise _
      rw [List.pairwise_append]
      refine ⟨w.asc, by simp, fun a ha b hb => ?_⟩
      simp at hb; subst hb
      have := (w.ids a ha).2
      show a.id < T.last + 1
      omega
    · rcases List.mem_append.1 hx with h | h
      · have := w.ids x h
        show 1 ≤ x.id ∧ x.id ≤ T.last + 1
        omega
      · simp at h; subst h
        show 1 ≤ T.last + 1 ∧ T.last + 1 ≤ T.last + 1
        have := w.last; omega
    · have := w.last
      show 0 ≤ T.last + 1 ∧ T.last + 1 ≤ 1000000
      omega
    · rcases List.mem_append.1 hx with h | h
      · exact w.par x h
      · simp at h; subst h
        show 0 ≤ c.par ∧ c.par < T.last + 1
        omega
end Go.Proofs.Ytehgjkopobkbmaa
