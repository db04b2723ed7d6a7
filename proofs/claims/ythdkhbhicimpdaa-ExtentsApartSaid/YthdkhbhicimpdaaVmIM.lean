/- Maps of whole keys. -/
import Derived.Test.YthdkhbhicimpdaaVmML
set_option linter.unusedVariables false
set_option linter.unusedSimpArgs false
namespace Go.Vm
variable {P : Program}

def keyI : V → Int
  | .int _ n => n
  | _ => 0
structure IMap (es : Ents) (ck : Nat) : Prop where
  ok : EntsOk es ck
  ints : ∀ e ∈ es, ∃ k : Int, e.1 = .int .i64 k
  keys : (es.map fun e => keyI e.1).Nodup
def getI : Ents → Int → Option V
  | [], _ => none
  | e :: r, k => if keyI e.1 = k then some e.2.1 else getI r k
theorem getI_hit {e : V × V × Nat} {k : Int} (r : Ents) (h : keyI e.1 = k) : getI (e :: r) k = some e.2.1 := by unfold getI; rw [if_pos h]
theorem getI_miss {e : V × V × Nat} {k : Int} (r : Ents) (h : keyI e.1 ≠ k) : getI (e :: r) k = getI r k := by rw [getI, if_neg h]
theorem IMap.nil : IMap [] 0 := ⟨EntsOk.nil, by simp, by simp⟩
theorem eqD_int {kt : TypeId} (hu : P.underlying kt = some (.int .i64)) (a b : Int) : eqD P 10 kt (.int .i64 a) (.int .i64 b) = some (a == b) := by
  simp [eqD, hu]
theorem findV_none {kt : TypeId} (hu : P.underlying kt = some (.int .i64)) {k : Int} : ∀ {es : Ents} {i : Nat}, (∀ e ∈ es, ∃ k : Int, e.1 = .int .i64 k) → getI es k = none → findV P kt (.int .i64 k) es i = some none
  | [], i, _, _ => rfl
  | e :: r, i, hi, h => by
    obtain ⟨x, hx⟩ := hi e (by simp)
    have hkx : keyI e.1 = x := by rw [hx]; rfl
    unfold getI at h
    by_cases hk : keyI e.1 = k
    · rw [if_pos hk] at h; cases h
    · rw [if_neg hk] at h
      have : (k == x) = false := by simpa using fun e : k = x => hk (hkx.trans e.symm)
      unfold findV
      rw [hx, eqD_int hu, this]
      exact findV_none hu (fun e he => hi e (by simp [he])) h
theorem findV_some {kt : TypeId} (hu : P.underlying kt = some (.int .i64)) {k : Int} {v : V} : ∀ {es : Ents} {i : Nat}, (∀ e ∈ es, ∃ k : Int, e.1 = .int .i64 k) → getI es k = some v → ∃ j e, es[j]? = some e ∧ e.1 = .int .i64 k ∧ e.2.1 = v ∧ findV P kt (.int .i64 k) es i = some (some (i + j, v))
  | [], i, _, h => by cases h
  | e :: r, i, hi, h => by
    obtain ⟨x, hx⟩ := hi e (by simp)
    have hkx : keyI e.1 = x := by rw [hx]; rfl
    unfold getI at h
    by_cases hk : keyI e.1 = k
    · rw [if_pos hk] at h; cases h
      have hxk : x = k := hkx.symm.trans hk
      subst hxk
      refine ⟨0, e, rfl, hx, rfl, ?_⟩
      unfold findV
      rw [hx, eqD_int hu, beq_self_eq_true]
      rfl
    · rw [if_neg hk] at h
      have : (k == x) = false := by simpa using fun e : k = x => hk (hkx.trans e.symm)
      obtain ⟨j, e', h1, h2, h3, h4⟩ := findV_some (i := i + 1) hu (fun e he => hi e (by simp [he])) h
      refine ⟨j + 1, e', by simpa using h1, h2, h3, ?_⟩
      unfold findV
      rw [hx, eqD_int hu, this]
      simp only []
      rw [h4, show i + 1 + j = i + (j + 1) by omega]
theorem look_int {t kt et : TypeId} {z : V} (ht : P.underlying t = some (.map kt et)) (hu : P.underlying kt = some (.int .i64)) (hz : zeroV P et = some z) {h : Heap} {r : Nat} {es : Ents} {ck : Nat} (hr : h.get r = some (.map es ck)) (hm : IMap es ck) (k : Int) :
    lookV P t h (.map (some r)) (.int .i64 k) false = some ((getI es k).getD z, [r]) := by
  have hk : keyOk P 10 kt (.int .i64 k) = true := by simp [keyOk, hu]
  simp only [lookV, ht, hu, hk, hz, hr]
  cases hg : getI es k with
  | none => rw [findV_none hu hm.ints hg]; rfl
  | some v =>
    obtain ⟨j, e, _, _, _, hf⟩ := findV_some (i := 0) hu hm.ints hg
    rw [hf]; rfl
theorem getI_append (es : Ents) (k x : Int) (v : V) (c : Nat) : getI (es ++ [(.int .i64 k, v, c)]) x = match getI es x with
    | some w => some w
    | none => if x = k then some v else none := by
  induction es with
  | nil =>
    by_cases e : x = k
    · rw [List.nil_append, getI_hit (e := (V.int .i64 k, v, c)) _ (show k = x from e.symm)]; simp [getI, e]
    · rw [List.nil_append, getI_miss (e := (V.int .i64 k, v, c)) _ (show k ≠ x from fun e1 => e e1.symm)]; simp [getI, e]
  | cons e r ih =>
    rw [List.cons_append]
    by_cases hk : keyI e.1 = x
    · rw [getI_hit _ hk, getI_hit _ hk]
    · rw [getI_miss _ hk, getI_miss _ hk]; exact ih
theorem getI_none {es : Ents} {k : Int} (h : getI es k = none) : ∀ e ∈ es, keyI e.1 ≠ k := by
  induction es with
  | nil => simp
  | cons e r ih =>
    unfold getI at h
    split at h
    · cases h
    · rename_i hne
      intro e' he'
      rcases List.mem_cons.1 he' with rfl | he'
      · exact hne
      · exact ih h e' he'
theorem getI_set : ∀ {es : Ents} {j : Nat} {e : V × V × Nat} {k : Int} {v : V} {c : Nat}, (es.map fun e => keyI e.1).Nodup → es[j]? = some e → keyI e.1 = k → ∀ x, getI (es.set j (.int .i64 k, v, c)) x = if x = k then some v else getI es x
  | [], j, e, k, v, c, _, h, _, x => by simp at h
  | e0 :: r, 0, e, k, v, c, hn, h, hk, x => by
    simp at h; subst h
    rw [List.set_cons_zero]
    by_cases ex : x = k
    · rw [getI_hit (e := (V.int .i64 k, v, c)) _ (show k = x from ex.symm), if_pos ex]
    · rw [getI_miss (e := (V.int .i64 k, v, c)) _ (show k ≠ x from fun e1 => ex e1.symm), if_neg ex, getI_miss _ (by rw [hk]; exact fun e1 => ex e1.symm)]
  | e0 :: r, j + 1, e, k, v, c, hn, h, hk, x => by
    simp only [List.getElem?_cons_succ] at h
    simp only [List.map_cons, List.nodup_cons] at hn
    have hne : keyI e0.1 ≠ k := fun e1 => hn.1 (by rw [e1, ← hk]; exact List.mem_map.2 ⟨e, List.mem_of_getElem? h, rfl⟩)
    rw [List.set_cons_succ]
    by_cases hx : keyI e0.1 = x
    · rw [getI_hit _ hx, getI_hit _ hx, if_neg (fun e1 => hne (hx.trans e1))]
    · rw [getI_miss _ hx, getI_miss _ hx, getI_set hn.2 h hk x]
theorem getI_mem : ∀ {es : Ents} {k : Int} {v : V}, getI es k = some v → ∃ e ∈ es, keyI e.1 = k
  | e :: r, k, v, h => by
    by_cases hk : keyI e.1 = k
    · exact ⟨e, by simp, hk⟩
    · rw [getI_miss _ hk] at h
      obtain ⟨e', he', hk'⟩ := getI_mem h
      exact ⟨e', by simp [he'], hk'⟩
theorem set_same {α : Type} {l : List α} {j : Nat} {x : α} (h : l[j]? = some x) : l.set j x = l := by
  apply List.ext_getElem?
  intro i
  by_cases e : j = i
  · subst e; rw [List.getElem?_set_self (List.getElem?_eq_some_iff.1 h).1, h]
  · rw [List.getElem?_set_ne e]
theorem upd_int {t kt et : TypeId} (ht : P.underlying t = some (.map kt et)) (hu : P.underlying kt = some (.int .i64)) {h : Heap} {r : Nat} {es : Ents} {ck : Nat} (hr : h.get r = some (.map es ck)) (hm : IMap es ck) (k : Int) (v : V) :
    ∃ es' ck', updV P t h (.map (some r)) (.int .i64 k) v = some (h.set r (.map es' ck'), [r]) ∧ IMap es' ck' ∧ (∀ x, getI es' x = if x = k then some v else getI es x) ∧ es'.length ≤ es.length + 1 := by
  have hk : keyOk P 10 kt (.int .i64 k) = true := by simp [keyOk, hu]
  simp only [updV, ht, hu, hk, hr]
  cases hg : getI es k with
  | none =>
    rw [findV_none hu hm.ints hg]
    refine ⟨_, _, rfl, ⟨hm.ok.push _ _, ?_, ?_⟩, fun x => ?_, by simp⟩
    · intro e he
      rcases List.mem_append.1 he with he | he
      · exact hm.ints e he
      · simp at he; subst he; exact ⟨k, rfl⟩
    · rw [List.map_append, List.nodup_append]
      refine ⟨hm.keys, by simp, fun a ha b hb => ?_⟩
      simp [keyI] at hb; subst hb
      obtain ⟨e, he, rfl⟩ := List.mem_map.1 ha
      exact getI_none hg e he
    · rw [getI_append]
      by_cases ex : x = k
      · subst ex; rw [hg]
      · rw [if_neg ex, if_neg ex]; cases getI es x <;> rfl
  | some w =>
    obtain ⟨j, e, h1, h2, h3, hf⟩ := findV_some (i := 0) hu hm.ints hg
    rw [hf]
    simp only [Nat.zero_add, h1, h2]
    have hs : sameV 10 (.int .i64 k) (.int .i64 k) = true := by simp [sameV]
    rw [hs]
    have hke : keyI e.1 = k := by rw [h2]; rfl
    refine ⟨_, _, rfl, ⟨hm.ok.set h1 _ _, ?_, ?_⟩, getI_set hm.keys h1 hke, by simp⟩
    · intro e' he'
      rcases List.mem_or_eq_of_mem_set he' with he' | he'
      · exact hm.ints e' he'
      · subst he'; exact ⟨k, rfl⟩
    · rw [List.map_set, show keyI (V.int .i64 k) = keyI e.1 from hke.symm, set_same (by simp [h1])]
      exact hm.keys
theorem getI_erase : ∀ {es : Ents} {j : Nat} {e : V × V × Nat}, (es.map fun e => keyI e.1).Nodup → es[j]? = some e → ∀ x, getI (es.eraseIdx j) x = if x = keyI e.1 then none else getI es x
  | [], j, e, _, h, x => by simp at h
  | e0 :: r, 0, e, hn, h, x => by
    simp at h; subst h
    simp only [List.map_cons, List.nodup_cons] at hn
    rw [List.eraseIdx_cons_zero]
    by_cases ex : x = keyI e0.1
    · rw [if_pos ex]
      cases hg : getI r x with
      | none => rfl
      | some w =>
        obtain ⟨e', he', hk⟩ := getI_mem hg
        exact absurd (List.mem_map.2 ⟨e', he', hk.trans ex⟩) hn.1
    · rw [if_neg ex, getI_miss _ (fun e1 => ex e1.symm)]
  | e0 :: r, j + 1, e, hn, h, x => by
    simp only [List.getElem?_cons_succ] at h
    simp only [List.map_cons, List.nodup_cons] at hn
    have hne : keyI e0.1 ≠ keyI e.1 := fun e1 => hn.1 (by rw [e1]; exact List.mem_map.2 ⟨e, List.mem_of_getElem? h, rfl⟩)
    rw [List.eraseIdx_cons_succ]
    by_cases hx : keyI e0.1 = x
    · rw [getI_hit _ hx, getI_hit _ hx, if_neg (fun e1 => hne (hx.trans e1))]
    · rw [getI_miss _ hx, getI_miss _ hx, getI_erase hn.2 h x]
theorem del_int {t kt et : TypeId} (ht : P.underlying t = some (.map kt et)) (hu : P.underlying kt = some (.int .i64)) {h : Heap} {r : Nat} {es : Ents} {ck : Nat} (hr : h.get r = some (.map es ck)) (hm : IMap es ck) (k : Int) :
    ∃ es', delV P t h (.map (some r)) (.int .i64 k) = some ⟨undefV, h.set r (.map es' ck), [], [r]⟩ ∧ IMap es' ck ∧ (∀ x, getI es' x = if x = k then none else getI es x) ∧ es'.length ≤ es.length := by
  have hk : keyOk P 10 kt (.int .i64 k) = true := by simp [keyOk, hu]
  simp only [delV, ht, hu, hk, hr]
  cases hg : getI es k with
  | none =>
    rw [findV_none hu hm.ints hg]
    refine ⟨es, rfl, hm, fun x => ?_, Nat.le_refl _⟩
    by_cases ex : x = k
    · rw [if_pos ex, ex, hg]
    · rw [if_neg ex]
  | some w =>
    obtain ⟨j, e, h1, h2, h3, hf⟩ := findV_some (i := 0) hu hm.ints hg
    rw [hf]
    simp only [Nat.zero_add]
    have hke : keyI e.1 = k := by rw [h2]; rfl
    refine ⟨_, rfl, ⟨hm.ok.erase _, fun e' he' => hm.ints e' (List.mem_of_mem_eraseIdx he'), ?_⟩, fun x => by rw [getI_erase hm.keys h1, hke], ?_⟩
    · exact hm.keys.sublist ((List.eraseIdx_sublist _ _).map _)
    · exact (List.eraseIdx_sublist _ _).length_le
end Go.Vm
