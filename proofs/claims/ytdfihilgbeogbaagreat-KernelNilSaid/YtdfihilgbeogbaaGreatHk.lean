/- The calls that go through a map of capabilities, by a table. -/
import Derived.Test.YtdfihilgbeogbaaGreatS2
import Derived.Test.YtdfihilgbeogbaaGreatM
import Derived.Test.YtdfihilgbeogbaaGreatV3
set_option linter.unusedVariables false
set_option linter.unusedSimpArgs false
set_option linter.unusedSimpArgs false
set_option maxRecDepth 100000
set_option linter.unusedVariables false
set_option linter.unusedSimpArgs false
namespace Go.Proofs.YtdfihilgbeogbaaGreat
open Go Go.Vm

def isKey : V → Bool
  | .int .i64 _ => true
  | _ => false
theorem isKey_eq {v : V} (h : isKey v = true) : ∃ k : Int, v = .int .i64 k := by
  unfold isKey at h
  split at h
  · exact ⟨_, rfl⟩
  · cases h
def okB (ck : Nat) : Nat → Nat → Ents → Bool
  | 0, _, _ => false
  | _ + 1, _, [] => true
  | n + 1, lo, e :: r => match Nat.ble lo e.2.2, Nat.blt e.2.2 ck, isCap e.2.1, isKey e.1 with
    | true, true, true, true => okB ck n (e.2.2 + 1) r
    | _, _, _, _ => false
theorem okB_all {ck : Nat} : ∀ (n lo : Nat) (es : Ents), okB ck n lo es = true → (∀ e ∈ es, lo ≤ e.2.2 ∧ e.2.2 < ck ∧ isCap e.2.1 = true ∧ isKey e.1 = true) ∧ (es.map (·.2.2)).Nodup ∧ es.length < n
  | 0, lo, es, h => by simp [okB] at h
  | n + 1, lo, [], h => ⟨fun e he => (by cases he), by simp, by simp⟩
  | n + 1, lo, e :: r, h => by
    unfold okB at h
    split at h
    · rename_i h1 h2 h3 h4
      rw [Nat.ble_eq] at h1
      have h2 := Nat.blt_eq.mp h2
      obtain ⟨a1, a2, a3⟩ := okB_all n _ r h
      refine ⟨fun x hx => ?_, ?_, by simp; omega⟩
      · rcases List.mem_cons.1 hx with rfl | hx
        · exact ⟨h1, h2, h3, h4⟩
        · obtain ⟨b1, b2⟩ := a1 x hx
          exact ⟨by omega, b2⟩
      · rw [List.map_cons, List.nodup_cons]
        refine ⟨fun hm => ?_, a2⟩
        obtain ⟨x, hx, hxe⟩ := List.mem_map.1 hm
        have := (a1 x hx).1
        omega
    · cases h

def ins (x : Int) : List Int → List Int
  | [] => [x]
  | y :: r => if x ≤ y then x :: y :: r else y :: ins x r
def isort : List Int → List Int
  | [] => []
  | x :: r => ins x (isort r)
theorem ins_perm (x : Int) : ∀ l, (ins x l).Perm (x :: l)
  | [] => List.Perm.refl _
  | y :: r => by
    unfold ins
    split
    · exact List.Perm.refl _
    · exact ((ins_perm x r).cons y).trans (List.Perm.swap x y r)
theorem isort_perm : ∀ l, (isort l).Perm l
  | [] => List.Perm.refl _
  | x :: r => (ins_perm x _).trans ((isort_perm r).cons x)
theorem ins_sorted (x : Int) : ∀ l, l.Pairwise (· ≤ ·) → (ins x l).Pairwise (· ≤ ·)
  | [], _ => by simp [ins]
  | y :: r, h => by
    rw [List.pairwise_cons] at h
    unfold ins
    split
    · rename_i hxy
      rw [List.pairwise_cons]
      refine ⟨fun z hz => ?_, by rw [List.pairwise_cons]; exact h⟩
      rcases List.mem_cons.1 hz with rfl | hz
      · exact hxy
      · have := h.1 z hz; omega
    · rename_i hxy
      rw [List.pairwise_cons]
      refine ⟨fun z hz => ?_, ins_sorted x r h.2⟩
      rcases List.mem_cons.1 ((ins_perm x r).mem_iff.1 hz) with rfl | hz
      · omega
      · exact h.1 z hz
theorem isort_sorted : ∀ l, (isort l).Pairwise (· ≤ ·)
  | [] => by simp [isort]
  | x :: r => ins_sorted x _ (isort_sorted r)
theorem isort_eq (l : List Int) : isort l = sortI l :=
  List.Perm.eq_of_pairwise (le := fun x y => x ≤ y) (fun x y _ _ h1 h2 => Int.le_antisymm h1 h2) (isort_sorted l)
    ((List.pairwise_mergeSort (le := fun x y => decide (x ≤ y)) (fun a b c h1 h2 => by simp at *; omega) (fun a b => by simp; omega) l).imp fun h => by simpa using h)
    ((isort_perm l).trans (List.mergeSort_perm l _).symm)
def sortedW (h : Heap) (es : Ents) : V × Heap := match es with
  | [] => (.slice none 0 0 true, h)
  | e :: r => (.slice (some (h.n, 0)) (e :: r).length (e :: r).length false, h.push (.cells (Blk.of ((isort ((e :: r).map fun e => intOf e.1)).map (.int .i64))) 2))
theorem sortedW_eq (h : Heap) (es : Ents) : sortedW h es = sortedV h es := by
  cases es with
  | nil => rfl
  | cons e r => unfold sortedW sortedV; simp only [isort_eq]; rfl

def hkMade : Hook := fun g args h => match Nat.beq g 173, args with
  | true, [.ptr (some (tb, 0)), .int .i64 a] => match h.get tb with
    | some (.cells c ty) => match Nat.beq ty 202, Nat.beq c.size 2, c.get 0 with
      | true, true, .map (some r) => match h.get r with
        | some (.map es ck) => match okB ck 1000 0 es with
          | true => some ⟨.int .i64 (madeBy a es), h, [tb, r], []⟩
          | false => none
        | _ => none
      | _, _, _ => none
    | _ => none
  | _, _ => none
theorem hkMade_ok : HookOk Tryz.prog hkMade := by
  intro f args h pr hp
  unfold hkMade at hp
  split at hp
  · rename_i tb a hf
    obtain rfl := Nat.eq_of_beq_eq_true hf
    split at hp
    · rename_i c ty hg
      split at hp
      · rename_i r ht hs h0
        obtain rfl := Nat.eq_of_beq_eq_true ht
        have hs := Nat.eq_of_beq_eq_true hs
        split at hp
        · rename_i es ck hm2
          split at hp
          · rename_i hok
            cases hp
            obtain ⟨a1, a2, a3⟩ := okB_all _ _ _ hok
            have htab : TableAt h tb r es ck := ⟨⟨c, hg, hs, h0⟩, hm2, ⟨a2, fun e he => (a1 e he).2.1⟩, fun e he => (a1 e he).2.2.1, by omega⟩
            obtain ⟨v, h', ⟨rfl, rfl⟩, hf⟩ := made_ok htab a
            exact hf.mono (fun b hb => by rcases hb with rfl | rfl <;> simp) (fun b hb => hb.elim)
          · cases hp
        · cases hp
      · cases hp
    · cases hp
  · cases hp
def hkSorted : Hook := fun g args h => match Nat.beq g 167, args with
  | true, [.func k [] [.ptr (some (kb, 0))]] => match Nat.beq k 202, h.get kb with
    | true, some (.cells c ty) => match Nat.beq ty 200, Nat.beq c.size 1, c.get 0 with
      | true, true, .map (some r) => match h.get r with
        | some (.map es ck) => match okB ck 1000 0 es with
          | true => some ⟨(sortedW h es).1, (sortedW h es).2, [kb, r], []⟩
          | false => none
        | _ => none
      | _, _, _ => none
    | _, _ => none
  | _, _ => none
theorem hkSorted_ok : HookOk Tryz.prog hkSorted := by
  intro f args h pr hp
  unfold hkSorted at hp
  split at hp
  · rename_i k kb hf
    obtain rfl := Nat.eq_of_beq_eq_true hf
    split at hp
    · rename_i c ty hk hg
      obtain rfl := Nat.eq_of_beq_eq_true hk
      split at hp
      · rename_i r ht hs h0
        obtain rfl := Nat.eq_of_beq_eq_true ht
        have hs := Nat.eq_of_beq_eq_true hs
        split at hp
        · rename_i es ck hm2
          split at hp
          · rename_i hok
            cases hp
            obtain ⟨a1, a2, a3⟩ := okB_all _ _ _ hok
            have hkeys : KeysAt h kb r es ck := ⟨⟨c, hg, hs, h0⟩, hm2, ⟨a2, fun e he => (a1 e he).2.1⟩, fun e he => isKey_eq (a1 e he).2.2.2, by omega⟩
            have hf := sorted_ok hkeys
            rw [← sortedW_eq] at hf
            exact hf.mono (fun b hb => by rcases hb with rfl | rfl <;> simp) (fun b hb => hb.elim)
          · cases hp
        · cases hp
      · cases hp
    · cases hp
  · cases hp
def hk1 : Hook := hkOr hkMade hkSorted
theorem hk1_ok : HookOk Tryz.prog hk1 := hkOr_ok hkMade_ok hkSorted_ok
end Go.Proofs.YtdfihilgbeogbaaGreat
