/- What holds of a map's entries, and of those that an iterator has handed out. -/
import Derived.Test.YtmkdbninmimndaaVmAA
import Derived.Test.YtmkdbninmimndaaVmTY
import Derived.Test.YtmkdbninmimndaaVmDet
set_option linter.unusedVariables false
set_option linter.unusedSimpArgs false
namespace Go.Vm
variable {P : Program}

/-- Entries with their own stamps, all ahead of the clock. -/
structure EntsOk (es : Ents) (clock : Nat) : Prop where
  nodup : (es.map (·.2.2)).Nodup
  lt : ∀ e ∈ es, e.2.2 < clock
theorem EntsOk.nil : EntsOk [] 0 := ⟨by simp, by simp⟩
theorem EntsOk.push {es : Ents} {c : Nat} (h : EntsOk es c) (k v : V) : EntsOk (es ++ [(k, v, c)]) (c + 1) := by
  refine ⟨?_, fun e he => ?_⟩
  · rw [List.map_append, List.nodup_append]
    refine ⟨h.nodup, by simp, fun a ha b hb => ?_⟩
    simp at hb; subst hb
    obtain ⟨e, he, rfl⟩ := List.mem_map.1 ha
    have := h.lt e he; omega
  · rcases List.mem_append.1 he with h' | h'
    · have := h.lt e h'; omega
    · simp at h'; subst h'; simp
theorem EntsOk.set {es : Ents} {c : Nat} (h : EntsOk es c) {i : Nat} {e : V × V × Nat} (hi : es[i]? = some e) (k v : V) : EntsOk (es.set i (k, v, e.2.2)) c := by
  have hm : (es.set i (k, v, e.2.2)).map (·.2.2) = es.map (·.2.2) := by
    rw [List.map_set]
    apply List.ext_getElem?
    intro j
    rw [List.getElem?_set]
    by_cases hj : i = j
    · subst hj
      have hl : i < es.length := (List.getElem?_eq_some_iff.1 hi).1
      rw [if_pos rfl, if_pos (by simpa using hl), List.getElem?_map, hi]; rfl
    · rw [if_neg hj]
  refine ⟨by rw [hm]; exact h.nodup, fun e' he' => ?_⟩
  rcases List.mem_or_eq_of_mem_set he' with h' | h'
  · exact h.lt e' h'
  · subst h'; exact h.lt e (List.mem_of_getElem? hi)
theorem EntsOk.erase {es : Ents} {c : Nat} (h : EntsOk es c) (i : Nat) : EntsOk (es.eraseIdx i) c := by
  refine ⟨?_, fun e he => h.lt e (List.mem_of_mem_eraseIdx he)⟩
  rw [← map_eraseIdx]
  exact h.nodup.sublist (List.eraseIdx_sublist _ _)

theorem nodup_of_map {α β : Type} {f : α → β} : ∀ {l : List α}, (l.map f).Nodup → l.Nodup
  | [], _ => by simp
  | a :: l, h => by
    rw [List.map_cons, List.nodup_cons] at h
    rw [List.nodup_cons]
    exact ⟨fun ha => h.1 (List.mem_map.2 ⟨a, ha, rfl⟩), nodup_of_map h.2⟩
theorem nodup_inj {α β : Type} {f : α → β} : ∀ {l : List α}, (l.map f).Nodup → ∀ {a b : α}, a ∈ l → b ∈ l → f a = f b → a = b
  | [], _, a, b, ha, _, _ => by cases ha
  | x :: l, h, a, b, ha, hb, e => by
    rw [List.map_cons, List.nodup_cons] at h
    rcases List.mem_cons.1 ha with rfl | ha
    · rcases List.mem_cons.1 hb with rfl | hb
      · rfl
      · exact absurd (List.mem_map.2 ⟨b, hb, e.symm⟩) h.1
    · rcases List.mem_cons.1 hb with h' | hb
      · exact absurd (List.mem_map.2 ⟨a, ha, e.trans (by rw [h'])⟩) h.1
      · exact nodup_inj h.2 ha hb e
theorem nodup_length : ∀ {l m : List Nat}, l.Nodup → (∀ a ∈ l, a ∈ m) → l.length ≤ m.length
  | [], m, _, _ => Nat.zero_le _
  | a :: l, m, h, hs => by
    rw [List.nodup_cons] at h
    have ha := hs a (by simp)
    have := nodup_length (l := l) (m := m.erase a) h.2 fun b hb => (List.mem_erase_of_ne (fun e => by subst e; exact h.1 hb)).2 (hs b (by simp [hb]))
    rw [List.length_erase_of_mem ha] at this
    have := List.length_pos_of_mem ha
    simp; omega
/-- What an iterator has handed out so far. -/
structure Seen (es : Ents) (seen : List Nat) (l : Ents) : Prop where
  stamps : l.map (·.2.2) = seen
  sub : ∀ e ∈ l, e ∈ es
  nodup : seen.Nodup
theorem Seen.nil (es : Ents) : Seen es [] [] := ⟨rfl, by simp, by simp⟩
theorem Seen.step {es l : Ents} {seen : List Nat} (h : Seen es seen l) {e : V × V × Nat} (he : e ∈ es) (hn : e.2.2 ∉ seen) : Seen es (seen ++ [e.2.2]) (l ++ [e]) := by
  refine ⟨by simp [h.stamps], fun x hx => ?_, ?_⟩
  · rcases List.mem_append.1 hx with h' | h'
    · exact h.sub x h'
    · simp at h'; subst h'; exact he
  · rw [List.nodup_append]
    refine ⟨h.nodup, by simp, fun a ha b hb => ?_⟩
    simp at hb; subst hb
    exact fun e => hn (e ▸ ha)
theorem Seen.nodup_l {es l : Ents} {seen : List Nat} (h : Seen es seen l) : l.Nodup := by
  have := h.nodup
  rw [← h.stamps] at this
  exact nodup_of_map this
theorem Seen.last {es l : Ents} {seen : List Nat} {c : Nat} (h : Seen es seen l) (hes : EntsOk es c) (hall : ∀ e ∈ es, e.2.2 ∈ seen) : l.Perm es := by
  have hd : es.Nodup := nodup_of_map hes.nodup
  have key : ∀ a, a ∈ l ↔ a ∈ es := by
    intro a
    refine ⟨h.sub a, fun ha => ?_⟩
    have := hall a ha
    rw [← h.stamps] at this
    obtain ⟨b, hb, hab⟩ := List.mem_map.1 this
    have hb' := h.sub b hb
    have : b = a := nodup_inj hes.nodup hb' ha hab
    exact this ▸ hb
  exact (List.perm_ext_iff_of_nodup h.nodup_l hd).2 key
theorem Seen.length {es l : Ents} {seen : List Nat} (h : Seen es seen l) : l.length ≤ es.length := by
  have := nodup_length (l := seen) (m := es.map (·.2.2)) h.nodup fun a ha => by
    rw [← h.stamps] at ha
    obtain ⟨e, he, rfl⟩ := List.mem_map.1 ha
    exact List.mem_map.2 ⟨e, h.sub e he, rfl⟩
  rw [← h.stamps] at this
  simpa using this

theorem find_stamp {es : Ents} {c : Nat} (h : EntsOk es c) {e : V × V × Nat} (he : e ∈ es) : es.find? (fun x => Nat.beq x.2.2 e.2.2) = some e := by
  cases hf : es.find? (fun x => Nat.beq x.2.2 e.2.2) with
  | none => have := List.find?_eq_none.1 hf e he; simp at this
  | some x =>
    have h1 := List.mem_of_find?_eq_some hf
    have h2 := List.find?_some hf
    have h3 := Nat.eq_of_beq_eq_true h2
    rw [nodup_inj h.nodup h1 he h3]

theorem entry_at {g : Heap} {b m since : Nat} {seen : List Nat} {es : Ents} {ck : Nat} {e : V × V × Nat} (hb : g.get b = some (.iter (some m) since (seen ++ [e.2.2]) ck)) (hm : g.get m = some (.map es ck)) (hok : EntsOk es ck) (he : e ∈ es) :
    entryV g b = some (.tuple [e.1, e.2.1], [b, m]) := by
  unfold entryV
  simp only [hb, List.getLast?_append, List.getLast?_singleton, Option.some_or, hm]
  rw [show Nat.beq ck ck = true by simp, find_stamp hok he]

end Go.Vm
