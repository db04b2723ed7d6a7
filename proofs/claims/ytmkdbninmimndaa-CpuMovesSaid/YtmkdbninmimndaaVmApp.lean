/- append, one value at a time. -/
import Derived.Test.YtmkdbninmimndaaVmBB
set_option linter.unusedVariables false
set_option linter.unusedSimpArgs false
namespace Go.Vm
variable {P : Program}

/-- What an append looks up of its types: the element, its cells, its bytes. -/
def apT (P : Program) (t u : TypeId) : Option (Nat × Nat × Nat) := match P.underlying t with
  | some (.slice e) => match P.info? e, zeroV P e, srcOk P u with
    | some i, some z, true => match Nat.beq z.cellsV.length i.size with
      | true => some (e, i.size, i.bytes)
      | false => none
    | _, _, _ => none
  | _ => none
def appE (e size bytes : Nat) (s x : V) (h : Heap) : Option Pr := match s, lenOfV x with
  | .slice base sLen sCap ex, some n => match firstV h size n x with
    | some (news, rs) => match Nat.beq news.length (n * size) with
      | true => match Nat.ble (sLen + n) sCap with
        | true => appendIn h base sLen sCap ex size n news rs
        | false => match firstV h size sLen s with
          | some (olds, rs') => match Nat.beq olds.length (sLen * size) with
            | true => match Nat.ble ((sLen + n) * bytes) 140737488355328 with
              | true => match Nat.ble (sLen + n) 9223372036854775807 with
                | true => appendOut h e base sCap ex size (sLen + n) olds news (rs ++ rs')
                | false => none
              | false => none
            | false => none
          | none => none
      | false => none
    | none => none
  | .esl a, some 0 => match firstV h size 0 x with
    | some ([], rs) => some ⟨.esl a, h, rs, []⟩
    | _ => none
  | _, _ => none
theorem appendV_of {t u e size bytes : Nat} (ht : apT P t u = some (e, size, bytes)) (s x : V) (h : Heap) : appendV P t u s x h = appE e size bytes s x h := by
  unfold apT at ht
  unfold appendV appE
  split at ht
  · rename_i e' hu
    rw [hu]
    simp only []
    split at ht
    · rename_i i z h1 h2 h3
      split at ht
      · rename_i hz
        cases ht
        rw [h1, h2]
        simp only []
        cases s <;> try rfl
        case esl a =>
          simp only [appSrcV, h3]
          cases lenOfV x with
          | none => rfl
          | some n =>
            simp only []
            cases n with
            | zero => cases firstV h i.size 0 x with
              | none => rfl
              | some p =>
                obtain ⟨news, rs⟩ := p
                cases news <;> rfl
            | succ n => cases firstV h i.size (n + 1) x with
              | none => rfl
              | some p => rfl
        rename_i base sLen sCap ex
        simp only [appSrcV, h3]
        cases lenOfV x with
        | none => rfl
        | some n =>
          simp only []
          cases firstV h i.size n x with
          | none => rfl
          | some p =>
            obtain ⟨news, rs⟩ := p
            simp only []
            cases Nat.beq news.length (n * i.size) with
            | false => rfl
            | true =>
              simp only []
              cases Nat.ble (sLen + n) sCap with
              | true => rfl
              | false =>
                simp only []
                cases firstV h i.size sLen (.slice base sLen sCap ex) with
                | none => rfl
                | some q =>
                  obtain ⟨olds, rs'⟩ := q
                  simp only [hz]
                  cases Nat.beq olds.length (sLen * i.size) with
                  | false => rfl
                  | true =>
                    cases Nat.ble ((sLen + n) * i.bytes) 140737488355328 with
                    | false => rfl
                    | true => cases Nat.ble (sLen + n) 9223372036854775807 <;> rfl
      · cases ht
    · cases ht
  · cases ht
theorem gets_of (l : List V) : ∀ (k : Nat), k ≤ l.length → ∀ o, o + k = l.length → (Blk.of l).gets o k = l.drop o
  | 0, _, o, h => by
    rw [List.drop_eq_nil_of_le (by omega)]; rfl
  | k + 1, hk, o, h => by
    rw [w_gets_succ, gets_of l k (by omega) (o + 1) (by omega), w_of_get (by omega), List.drop_eq_getElem_cons (i := o) (l := l) (by omega)]
    congr 1
    simp [List.getD, show o < l.length by omega]
theorem gets_all (l : List V) {n : Nat} (h : n = l.length) : (Blk.of l).gets 0 n = l := by subst h; rw [gets_of l _ (Nat.le_refl _) 0 (by omega)]; rfl
theorem append_first {e bytes : Nat} {h : Heap} {xb : Nat} {cx : Blk} {te : TypeId} {v : V} (hx : h.get xb = some (.cells cx te)) (hs : 1 ≤ cx.size) (hv : cx.get 0 = v) (hb : bytes ≤ 140737488355328) :
    appE e 1 bytes (.slice none 0 0 true) (.slice (some (xb, 0)) 1 1 true) h = some ⟨.slice (some (h.n, 0)) 1 1 false, h.push (.cells (Blk.of [v]) e), [xb], []⟩ := by
  unfold appE
  simp only [lenOfV, firstV, hx, w_ble_t (show 0 + 1 * 1 ≤ cx.size by omega), w_gets_succ, w_gets_zero, hv, List.length_cons, List.length_nil]
  simp only [w_beq_t (show 0 + 1 = 1 * 1 from rfl), w_ble_f (show 0 < 0 + 1 by omega), w_beq_t (show 0 = 0 * 1 from rfl), w_ble_t (show (0 + 1) * bytes ≤ 140737488355328 by omega), w_ble_t (show 0 + 1 ≤ 9223372036854775807 by omega)]
  rfl
theorem append_next {e bytes n : Nat} {h : Heap} {xb bj : Nat} {cx : Blk} {te : TypeId} {v : V} {l : List V} (hx : h.get xb = some (.cells cx te)) (hs : 1 ≤ cx.size) (hv : cx.get 0 = v) (hv1 : v.one = true) (hn : n = l.length) (hj : h.get bj = some (.cells (Blk.of l) e)) (hb : (n + 1) * bytes ≤ 140737488355328) (hbig : n + 1 ≤ 9223372036854775807) :
    appE e 1 bytes (.slice (some (bj, 0)) n n false) (.slice (some (xb, 0)) 1 1 true) h = some ⟨.slice (some (h.n, 0)) (n + 1) (n + 1) false, (h.set bj .dead).push (.cells (Blk.of (l ++ [v])) e), [xb] ++ [bj], [bj]⟩ := by
  unfold appE
  simp only [lenOfV, firstV, hx, w_ble_t (show 0 + 1 * 1 ≤ cx.size by omega), w_gets_succ, w_gets_zero, hv, List.length_cons, List.length_nil]
  simp only [w_beq_t (show 0 + 1 = 1 * 1 from rfl), w_ble_f (show n < n + 1 by omega), hj, w_of_size]
  simp only [Nat.zero_add, Nat.mul_one, w_ble_t (show n ≤ l.length by omega), gets_all l hn, w_beq_t (show l.length = n from hn.symm), w_ble_t hb, w_ble_t hbig]
  simp only [appendOut, hj, w_beq_t (rfl : e = e), w_of_size, Nat.zero_add, Nat.mul_one, w_beq_t hn, allOne, hv1, Blk.ro_of]
/-- slices.Clone's append: all of a slice into new memory. -/
theorem append_whole {e bytes : Nat} {h : Heap} {eb b o m cap : Nat} {ex : Bool} {te ce : TypeId} {c : Blk} (he : h.get eb = some (.cells (Blk.of []) te)) (hb : h.get b = some (.cells c ce)) (hsz : o + m ≤ c.size) (h0 : 0 < m) (hB : m * bytes ≤ 140737488355328) (hbig : m ≤ 9223372036854775807) :
    appE e 1 bytes (.slice (some (eb, 0)) 0 0 true) (.slice (some (b, o)) m cap ex) h = some ⟨.slice (some (h.n, 0)) m m false, h.push (.cells (Blk.of (c.gets o m)) e), [b] ++ [eb], []⟩ := by
  unfold appE
  simp only [lenOfV, firstV, hb, he, Nat.mul_one, Nat.zero_add, Nat.zero_mul, w_ble_t hsz, Blk.length_gets, w_beq_t (rfl : m = m), w_ble_f h0, w_of_size, List.length_nil, w_ble_t (Nat.le_refl 0), w_gets_zero, w_beq_t (rfl : 0 = 0), w_ble_t hB, w_ble_t hbig]
  rfl
end Go.Vm
