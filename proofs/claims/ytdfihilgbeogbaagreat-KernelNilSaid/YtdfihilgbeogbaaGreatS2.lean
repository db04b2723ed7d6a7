/- slices.Sorted of a map's keys: the keys in ascending order in a new block, whatever order the map hands them out in. -/
import Derived.Test.YtdfihilgbeogbaaGreatS
import Derived.Test.YtdfihilgbeogbaaGreatLay
import Derived.Test.YtdfihilgbeogbaaGreatV4
import Derived.Test.YtdfihilgbeogbaaGreatV2
set_option linter.unusedVariables false
set_option linter.unusedSimpArgs false
set_option linter.unusedSimpArgs false
set_option maxRecDepth 100000
set_option linter.unusedVariables false
set_option linter.unusedSimpArgs false
namespace Go.Proofs.YtdfihilgbeogbaaGreat
open Go Go.Vm

def intOf : V → Int
  | .int _ k => k
  | _ => 0
def keysSorted (es : Ents) : List Int := sortI (es.map fun e => intOf e.1)
theorem sortI_perm {a b : List Int} (h : a.Perm b) : sortI a = sortI b := by
  refine List.Perm.eq_of_pairwise (le := fun x y => x ≤ y) (fun x y _ _ h1 h2 => Int.le_antisymm h1 h2) ?_ ?_ (((List.mergeSort_perm a _).trans h).trans (List.mergeSort_perm b _).symm)
  · exact (List.pairwise_mergeSort (le := fun x y => decide (x ≤ y)) (fun a b c h1 h2 => by simp at *; omega) (fun a b => by simp; omega) a).imp fun h => by simpa using h
  · exact (List.pairwise_mergeSort (le := fun x y => decide (x ≤ y)) (fun a b c h1 h2 => by simp at *; omega) (fun a b => by simp; omega) b).imp fun h => by simpa using h
def isUnit : Option (V × St) → Bool
  | some (.tuple [], _) => true
  | _ => false
theorem isUnit_some {x : Option (V × St)} (h : isUnit x = true) : ∃ s, x = some (undefV, s) := by
  unfold isUnit at h
  split at h
  · exact ⟨_, rfl⟩
  · cases h
theorem sort_none_run : isUnit (evInv Tryz.prog 1000 40 (.fn 201) [.slice none 0 0 true] s0) = true := by kernel_rfl
theorem sort_none (h : Heap) (R W : Set') : SF Tryz.prog 201 [.slice none 0 0 true] h R W fun v h' => v = undefV ∧ h' = h := by
  obtain ⟨s, hs⟩ := isUnit_some sort_none_run
  exact ⟨undefV, h, ⟨rfl, rfl⟩, ((evInv_good hm 1000 40).fn _ _ _ _ _ hs).plain rfl rfl h R W⟩

def SortedAt (h : Heap) (es : Ents) (v : V) (g : Heap) : Prop :=
  (es = [] ∧ v = .slice none 0 0 true) ∨ (es ≠ [] ∧ ∃ bj c, v = .slice (some (bj, 0)) es.length es.length false ∧ h.n ≤ bj ∧ bj < g.n ∧ g.get bj = some (.cells c 2) ∧ c.ro = false ∧ c.size = es.length ∧ ∀ i (hi : i < (keysSorted es).length), c.get i = .int .i64 (keysSorted es)[i])
theorem sorted_dem {h : Heap} {kb r : Nat} {es : Ents} {ck : Nat} {R W : Set'} (hk : KeysAt h kb r es ck) (hRk : R kb) (hRr : R r) :
    SF ⟨Tryz.prog, true⟩ 167 [.func 202 [] [.ptr (some (kb, 0))]] h R W fun v g => SortedAt h es v g := by
  refine SF.go hm Tryz.func167 ir167_eq ?_
  simp -implicitDefEqProofs (disch := (first | omega | (simp -implicitDefEqProofs only [szs, ne_eq] <;> omega) | fail)) only [go_sem, seval, ↓reduceIte, reduceCtorEq, ir167]
  refine GCall.of (collect_dem hk (.inr hRk) (.inr hRr)) ?_
  rintro v g ⟨l, hp, hold, hcase⟩
  rcases hcase with ⟨hl, rfl⟩ | ⟨hnl, bj, rfl, hbj, hd⟩
  · have hes : es = [] := by
      have : l = [] := by simpa using hl
      subst this
      exact (List.nil_perm.1 hp)
    simp -implicitDefEqProofs (disch := (first | omega | (simp -implicitDefEqProofs only [szs, ne_eq] <;> omega) | fail)) only [go_sem, seval, ↓reduceIte, reduceCtorEq]
    refine GCall.of (sort_none _ _ _).any ?_
    rintro v h' ⟨rfl, rfl⟩
    simp -implicitDefEqProofs (disch := (first | omega | (simp -implicitDefEqProofs only [szs, ne_eq] <;> omega) | fail)) only [go_sem, seval, ↓reduceIte, reduceCtorEq]
    exact .inl ⟨hes, rfl⟩
  · have hlt := Heap.lt_of_get hd
    have hfew := hk.few
    have hlen := hp.length_eq
    have hz : ∀ i (hi : i < (l.map fun e => intOf e.1).length), (Blk.of (l.map (·.1))).get i = .int .i64 (l.map fun e => intOf e.1)[i] := by
      intro i hi
      have hi' : i < l.length := by simpa using hi
      rw [w_of_get (by simpa using hi')]
      obtain ⟨key, hkey⟩ := hk.ints l[i] (hp.mem_iff.1 (List.getElem_mem hi'))
      simp [List.getD, hi', hkey, intOf]
    have hso := sort_ok laysSort hd (l.map fun e => intOf e.1) (by simp [w_of_size]) hz rfl (by simp; omega) l.length false
    simp only [List.length_map] at hso
    have hperm : (l.map fun e => intOf e.1).Perm (es.map fun e => intOf e.1) := hp.map _
    simp -implicitDefEqProofs (disch := (first | omega | (simp -implicitDefEqProofs only [szs, ne_eq] <;> omega) | fail)) only [go_sem, seval, ↓reduceIte, reduceCtorEq, List.length_map]
    refine GCall.of ((SF.any (M := ⟨Tryz.prog, true⟩) hso).foot (fun x hx => ?_) (fun x hx => ?_)) ?_
    · subst hx; exact .inl hbj
    · subst hx; exact .inl hbj
    rintro v h' ⟨rfl, rfl⟩
    simp -implicitDefEqProofs (disch := (first | omega | (simp -implicitDefEqProofs only [szs, ne_eq] <;> omega) | fail)) only [go_sem, seval, ↓reduceIte, reduceCtorEq]
    have hne : es ≠ [] := fun e => by
      subst e
      have : l = [] := by simpa using hlen
      subst this
      exact hnl rfl
    refine .inr ⟨hne, bj, _, by rw [hlen], hbj, by simpa using hlt, w_set_eq hlt rfl _, ?_, ?_, fun i hi => ?_⟩
    · rw [Blk.ro_puts]; rfl
    · simp [Blk.size_puts, w_of_size, hlen]
    · have hks : keysSorted es = sortI (l.map fun e => intOf e.1) := (sortI_perm hperm).symm
      have hi' : i < (sortI (l.map fun e => intOf e.1)).length := by rw [← hks]; exact hi
      rw [Blk.get_puts, if_pos (by simpa using hi')]
      simp [List.getD, hi', hks]
theorem keysSorted_length (es : Ents) : (keysSorted es).length = es.length := by simp [keysSorted, sortI_length]
def sortedV (h : Heap) (es : Ents) : V × Heap := match es with
  | [] => (.slice none 0 0 true, h)
  | _ => (.slice (some (h.n, 0)) es.length es.length false, h.push (.cells (Blk.of ((keysSorted es).map (.int .i64))) 2))
theorem KeysAt.same {h h' : Heap} {kb r : Nat} {es : Ents} {ck : Nat} (hk : KeysAt h kb r es ck) (hg : ∀ b, b < h.n → h'.get b = h.get b) : KeysAt h' kb r es ck := by
  obtain ⟨c, h1, h2, h3⟩ := hk.k
  exact ⟨⟨c, by rw [hg _ (Heap.lt_of_get h1)]; exact h1, h2, h3⟩, by rw [hg _ (Heap.lt_of_get hk.m)]; exact hk.m, hk.ok, hk.ints, hk.few⟩
theorem sorted_ok {h : Heap} {kb r : Nat} {es : Ents} {ck : Nat} (hk : KeysAt h kb r es ck) :
    FnOk Tryz.prog 167 [.func 202 [] [.ptr (some (kb, 0))]] h (sortedV h es).1 (sortedV h es).2 (fun b => b = kb ∨ b = r) (fun _ => False) := by
  obtain ⟨c, h1, h2, h3⟩ := hk.k
  have hlt1 := Heap.lt_of_get h1
  have hlt2 := Heap.lt_of_get hk.m
  cases es with
  | nil =>
    refine FnOk.of_dem (Q := fun g v g' => v = .slice none 0 0 true) (Nat.le_refl _) (fun _ _ => rfl) (fun b hb => by rcases hb with rfl | rfl <;> assumption) (fun g hg hgo => ?_) fun g v h' hg hv => ?_
    · refine FnD.mono (sorted_dem (hk.same hgo) (.inl rfl) (.inr rfl)) fun v g' hs _ => ?_
      rcases hs with ⟨_, hv⟩ | ⟨hne, _⟩
      · exact hv
      · exact absurd rfl hne
    · subst hv
      exact ⟨id, fun _ _ => rfl, fun b h1 h2 => by simp [sortedV] at h2; omega, fun b c h1 h2 => by simp [sortedV] at h2; omega, trivial, rfl, fun b o h1 h2 => by simp [sortedV] at h2; omega⟩
  | cons e es =>
    generalize hes : e :: es = es' at *
    have hne : es' ≠ [] := by rw [← hes]; simp
    have hsv : sortedV h es' = (.slice (some (h.n, 0)) es'.length es'.length false, h.push (.cells (Blk.of ((keysSorted es').map (.int .i64))) 2)) := by rw [← hes]; rfl
    rw [hsv]
    refine FnOk.of_dem (Q := fun g v g' => SortedAt g es' v g') (by simp) (fun b hb => w_push_ne (by omega) _) (fun b hb => by rcases hb with rfl | rfl <;> assumption) (fun g hg hgo => ?_) fun g v h' hg hs => ?_
    · exact sorted_dem (hk.same hgo) (.inl rfl) (.inr rfl)
    · rcases hs with ⟨h0, _⟩ | ⟨_, bj, cj, rfl, hbj, hlt, hget, hro, hsz, hcells⟩
      · exact absurd h0 hne
      · simp only [Heap.n_push] at hg
        refine ⟨fun b => if b < h.n then b else bj, fun b hb => if_pos hb, fun b h1 h2 => ?_, fun b c h1 h2 h3 h4 _ => ?_, by simp [V.names], by simp [V.rn], fun b o h1 h2 ho hd => ?_⟩
        · show g.n ≤ if b < h.n then b else bj
          rw [if_neg (by omega)]; exact hbj
        · simp at h2 h4; omega
        · simp at h2
          have hb : b = h.n := by omega
          subst hb
          rw [w_push_eq rfl] at ho; cases ho
          have e0 : (fun b => if b < h.n then b else bj) h.n = bj := if_neg (Nat.lt_irrefl _)
          rw [e0]
          refine ⟨hlt, _, hget, rfl, rfl, hro.symm, by rw [w_of_size, hsz]; simp [keysSorted_length], fun i hi => ?_⟩
          have hi' : i < (keysSorted es').length := by simpa [w_of_size] using hi
          have hval : (Blk.of ((keysSorted es').map (V.int .i64))).get i = .int .i64 (keysSorted es')[i] := by
            rw [w_of_get (by simpa using hi')]; simp [List.getD, hi']
          rw [hval, hcells i hi']
          exact ⟨trivial, rfl⟩
end Go.Proofs.YtdfihilgbeogbaaGreat
