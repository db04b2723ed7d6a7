/- Counting: sums over accounts, frames that are held. -/
import Derived.Test.YtfgdpgagcnelpaaA
set_option linter.unusedVariables false
set_option linter.unusedSimpArgs false
set_option linter.unusedSimpArgs false
set_option linter.unusedVariables false
set_option linter.unusedSimpArgs false
namespace Go.Proofs.Ytfgdpgagcnelpaa
open Go Go.Vm

def cnt (p : Nat → Bool) : Nat → Int
  | 0 => 0
  | k + 1 => cnt p k + if p k then 1 else 0
theorem cnt_in (p : Nat → Bool) : ∀ k, 0 ≤ cnt p k ∧ cnt p k ≤ k
  | 0 => by simp [cnt]
  | k + 1 => by have := cnt_in p k; simp only [cnt]; split <;> omega
theorem cnt_congr {p q : Nat → Bool} : ∀ {k : Nat}, (∀ i, i < k → p i = q i) → cnt p k = cnt q k
  | 0, _ => rfl
  | k + 1, h => by simp only [cnt]; rw [cnt_congr fun i hi => h i (by omega), h k (by omega)]
theorem cnt_on {p q : Nat → Bool} {i : Nat} : ∀ {k : Nat}, i < k → p i = false → q i = true → (∀ j, j < k → j ≠ i → q j = p j) → cnt q k = cnt p k + 1
  | 0, hi, _, _, _ => by omega
  | k + 1, hi, hp, hq, h => by
    simp only [cnt]
    by_cases e : i = k
    · subst e
      rw [cnt_congr (p := q) (q := p) fun j hj => h j (by omega) (by omega), hp, hq]
      simp
    · rw [cnt_on (k := k) (by omega) hp hq fun j hj hne => h j (by omega) hne, h k (by omega) (by omega)]
      omega
theorem cnt_pos {p : Nat → Bool} {i k : Nat} (hi : i < k) (hp : p i = true) : 1 ≤ cnt p k := by
  have := cnt_on (p := fun j => if j = i then false else p j) (q := p) hi (by simp) hp (fun j hj hne => by simp [hne])
  have h2 := (cnt_in (fun j => if j = i then false else p j) k).1
  omega
theorem sumTo_congr {f g : Nat → Int} : ∀ {k : Nat}, (∀ i, i < k → f i = g i) → sumTo f k = sumTo g k
  | 0, _ => rfl
  | k + 1, h => by simp only [sumTo]; rw [sumTo_congr fun i hi => h i (by omega), h k (by omega)]
theorem sumTo_le {f g : Nat → Int} : ∀ {k : Nat}, (∀ i, i < k → f i ≤ g i) → sumTo f k ≤ sumTo g k
  | 0, _ => by simp [sumTo]
  | k + 1, h => by have := sumTo_le (k := k) fun i hi => h i (by omega); have := h k (by omega); simp only [sumTo]; omega
theorem sumTo_lt {f g : Nat → Int} {a : Nat} : ∀ {k : Nat}, a < k → (∀ i, i < k → f i ≤ g i) → f a < g a → sumTo f k < sumTo g k
  | 0, ha, _, _ => by omega
  | k + 1, ha, h, hl => by
    simp only [sumTo]
    by_cases e : a = k
    · subst e
      have := sumTo_le (k := a) fun i hi => h i (by omega)
      omega
    · have := sumTo_lt (k := k) (by omega) (fun i hi => h i (by omega)) hl
      have := h k (by omega)
      omega
theorem sumTo_add {f g : Nat → Int} : ∀ k, sumTo (fun i => f i + g i) k = sumTo f k + sumTo g k
  | 0 => by simp [sumTo]
  | k + 1 => by simp only [sumTo]; rw [sumTo_add k]; omega
theorem sumTo_zero : ∀ k, sumTo (fun _ => 0) k = 0
  | 0 => rfl
  | k + 1 => by simp only [sumTo]; rw [sumTo_zero k]; rfl
theorem sumTo_one {a : Nat} : ∀ {k : Nat}, a < k → sumTo (fun i => if i = a then 1 else 0) k = 1
  | 0, h => by omega
  | k + 1, h => by
    simp only [sumTo]
    by_cases e : a = k
    · subst e
      rw [sumTo_congr (g := fun _ => 0) fun i hi => if_neg (by omega), sumTo_zero]
      simp
    · rw [sumTo_one (k := k) (by omega), if_neg (by omega)]
      rfl
structure WF (S : PS) : Prop where
  ho : ∀ i, i < S.n → 0 ≤ S.ho i ∧ S.ho i ≤ 65535
  ow : ∀ i, i < S.n → S.ho i ≠ 0 → 0 ≤ S.ow i ∧ S.ow i < S.na
  us : ∀ a, a < S.na → S.us a = cnt (fun i => decide (S.ho i ≠ 0 ∧ S.ow i = (a : Nat))) S.n
  le : ∀ a, a < S.na → S.us a ≤ S.qu a
  qu : ∀ a, a < S.na → S.qu a ≤ 256
  sum : sumTo S.qu S.na ≤ S.n
  n : S.n ≤ 256
/-- Each frame that is held is some account's. -/
theorem cnt_all {ho ow : Nat → Int} {na : Nat} : ∀ {n : Nat}, (∀ i, i < n → ho i ≠ 0 → 0 ≤ ow i ∧ ow i < na) → sumTo (fun a => cnt (fun i => decide (ho i ≠ 0 ∧ ow i = (a : Nat))) n) na = cnt (fun i => decide (ho i ≠ 0)) n
  | 0, _ => by simp only [cnt]; exact sumTo_zero na
  | n + 1, h => by
    simp only [cnt]
    rw [sumTo_add, cnt_all fun i hi => h i (by omega)]
    congr 1
    by_cases e : ho n = 0
    · rw [sumTo_congr (g := fun _ => 0) fun a ha => by simp [e], sumTo_zero]
      simp [e]
    · obtain ⟨h1, h2⟩ := h n (by omega) e
      obtain ⟨b, hb⟩ := Int.eq_ofNat_of_zero_le h1
      have hb' : b < na := by omega
      rw [sumTo_congr (g := fun i => if i = b then 1 else 0) fun a ha => by
        by_cases c : a = b
        · subst c; simp [e, hb]
        · have : ¬ ow n = (a : Int) := by omega
          simp [this, c], sumTo_one hb']
      simp [e]
theorem cnt_full {p : Nat → Bool} : ∀ {n : Nat}, (∀ i, i < n → p i = true) → cnt p n = n
  | 0, _ => rfl
  | n + 1, h => by simp only [cnt]; rw [cnt_full fun i hi => h i (by omega), h n (by omega)]; simp
/-- Below the quota there is a free frame. -/
theorem WF.free {S : PS} (w : WF S) {a : Nat} (ha : a < S.na) (h : S.us a < S.qu a) : ∃ i, i < S.n ∧ S.ho i = 0 := by
  refine Decidable.byContradiction fun hn => ?_
  have hall : ∀ i, i < S.n → S.ho i ≠ 0 := fun i hi e => hn ⟨i, hi, e⟩
  have h1 := cnt_all (ho := S.ho) (ow := S.ow) (na := S.na) (n := S.n) w.ow
  rw [cnt_full fun i hi => by simpa using hall i hi] at h1
  have h2 : sumTo S.us S.na = S.n := by rw [← h1]; exact sumTo_congr fun a ha => w.us a ha
  have h3 := sumTo_lt ha w.le h
  have := w.sum
  omega
theorem WF.least {S : PS} (w : WF S) {a : Nat} (ha : a < S.na) (h : S.us a < S.qu a) : ∃ i, i < S.n ∧ S.ho i = 0 ∧ ∀ j, j < i → S.ho j ≠ 0 := by
  obtain ⟨i, hi, h0⟩ := w.free ha h
  induction i using Nat.strongRecOn with
  | ind i ih =>
    by_cases hx : ∃ j, j < i ∧ S.ho j = 0
    · obtain ⟨j, hj, hj0⟩ := hx
      exact ih j hj (by omega) hj0
    · exact ⟨i, hi, h0, fun j hj e => hx ⟨j, hj, e⟩⟩
def PS.grant (S : PS) (i a : Nat) : PS := { S with ow := fun j => if j = i then a else S.ow j, ho := fun j => if j = i then 1 else S.ho j, byt := fun j k => if j = i then 0 else S.byt j k, us := fun b => if b = a then S.us b + 1 else S.us b }
theorem WF.grant {S : PS} (w : WF S) {i a : Nat} (ha : a < S.na) (h : S.us a < S.qu a) (hi : i < S.n) (h0 : S.ho i = 0) : WF (S.grant i a) := by
  refine ⟨fun j hj => ?_, fun j hj hh => ?_, fun b hb => ?_, fun b hb => ?_, w.qu, w.sum, w.n⟩
  · simp only [PS.grant]; split
    · omega
    · exact w.ho j hj
  · simp only [PS.grant] at hh ⊢; split
    · omega
    · rename_i e; rw [if_neg e] at hh; exact w.ow j hj hh
  · simp only [PS.grant]
    by_cases e : b = a
    · subst e
      rw [if_pos rfl, w.us b hb]
      refine (cnt_on hi (by simp [h0]) (by simp) fun j hj hne => by simp [hne]).symm
    · rw [if_neg e, w.us b hb]
      refine cnt_congr fun j hj => ?_
      by_cases c : j = i
      · subst c
        have : ¬ ((a : Int) = (b : Int)) := by omega
        simp [h0, this]
      · simp [c]
  · simp only [PS.grant]; split
    · rename_i e; subst e; omega
    · exact w.le b hb
/-- A hold more, or less, as long as some are left. -/
theorem WF.setHo {S : PS} (w : WF S) {i : Nat} {k : Int} (hi : i < S.n) (h0 : S.ho i ≠ 0) (h1 : 1 ≤ k) (h2 : k ≤ 65535) : WF (S.setHo i k) := by
  refine ⟨fun j hj => ?_, fun j hj hh => ?_, fun b hb => ?_, w.le, w.qu, w.sum, w.n⟩
  · simp only [PS.setHo]; split
    · omega
    · exact w.ho j hj
  · simp only [PS.setHo] at hh ⊢
    by_cases e : j = i
    · subst e; exact w.ow j hj h0
    · rw [if_neg e] at hh; exact w.ow j hj hh
  · simp only [PS.setHo]
    rw [w.us b hb]
    refine cnt_congr fun j hj => ?_
    by_cases c : j = i
    · subst c
      have : ¬ k = 0 := by omega
      simp [h0, this]
    · simp [c]
/-- A frame that goes free. -/
theorem WF.free1 {S : PS} (w : WF S) {i a : Nat} (hi : i < S.n) (h0 : S.ho i ≠ 0) (ho : S.ow i = a) (ha : a < S.na) : WF ((S.setHo i 0).setUs a (S.us a - 1)) := by
  refine ⟨fun j hj => ?_, fun j hj hh => ?_, fun b hb => ?_, fun b hb => ?_, w.qu, w.sum, w.n⟩
  · simp only [PS.setHo, PS.setUs]; split
    · omega
    · exact w.ho j hj
  · simp only [PS.setHo, PS.setUs] at hh ⊢
    by_cases e : j = i
    · subst e; simp at hh
    · rw [if_neg e] at hh; exact w.ow j hj hh
  · simp only [PS.setHo, PS.setUs]
    by_cases e : b = a
    · subst e
      rw [if_pos rfl, w.us b hb]
      have := cnt_on (p := fun j => decide ((if j = i then (0 : Int) else S.ho j) ≠ 0 ∧ S.ow j = (b : Nat))) (q := fun j => decide (S.ho j ≠ 0 ∧ S.ow j = (b : Nat))) hi (by simp) (by simp [h0, ho]) fun j hj hne => by simp [hne]
      rw [this]
      exact Int.add_sub_cancel _ 1
    · rw [if_neg e, w.us b hb]
      refine cnt_congr fun j hj => ?_
      by_cases c : j = i
      · subst c
        have : ¬ (S.ow j = (b : Int)) := by omega
        simp [this]
      · simp [c]
  · simp only [PS.setUs, PS.setHo]; split
    · rename_i e; subst e; have := w.le b hb; omega
    · exact w.le b hb
theorem WF.us_pos {S : PS} (w : WF S) {i a : Nat} (hi : i < S.n) (h0 : S.ho i ≠ 0) (ho : S.ow i = a) (ha : a < S.na) : 1 ≤ S.us a ∧ S.us a ≤ 65535 := by
  rw [w.us a ha]
  refine ⟨cnt_pos hi (by simp [h0, ho]), ?_⟩
  have := (cnt_in (fun j => decide (S.ho j ≠ 0 ∧ S.ow j = (a : Nat))) S.n).2
  have := w.n
  omega
end Go.Proofs.Ytfgdpgagcnelpaa
