/- Views of small arguments: what the bound of an '..UptoSaid' gives (after VmOpen's trod_vis). -/
import Derived.Test.YtmimialblhlklaaRows
import Derived.Test.YtmimialblhlklaaV4
set_option linter.unusedVariables false
set_option maxRecDepth 100000
namespace Go.Proofs.Ytmimialblhlklaa
open Go Go.Vm
def VSlU (B : Nat) (h : Heap) (sz : Nat) (Q : List V → Prop) (v : V) : Prop :=
 v = .slice none 0 0 true ∨ (∃ a, v = .esl a) ∨ ∃ b o len cap c ce, v = .slice (some (b, o)) len cap true ∧ len ≤ cap ∧ 0 < cap ∧ cap ≤ 9223372036854775807 ∧ cap ≤ B ∧ h.get b = some (.cells c ce) ∧ o + cap * sz ≤ c.size ∧ ∀ i, i < cap → Q (c.gets (o + i * sz) sz)
mutual
def VIsU (B : Nat) (h : Heap) : VT → List V → Prop
 | .bool, cs => ∃ b, cs = [.bool b]
 | .int k, cs => ∃ n, cs = [.int k n] ∧ k.min ≤ n ∧ n ≤ k.max
 | .slice e, cs => ∃ v, cs = [v] ∧ VSlU B h e.size (VIsU B h e) v
 | .struct fs, cs => VIssU B h fs cs
 | .array n e, cs => cs.length = n * e.size ∧ ∀ i, i < n → VIsU B h e ((cs.drop (i * e.size)).take e.size)
def VIssU (B : Nat) (h : Heap) : List VT → List V → Prop
 | [], cs => cs = []
 | t :: r, cs => VIsU B h t (cs.take t.size) ∧ VIssU B h r (cs.drop t.size)
end
theorem bulk_part {H : Type} {d : DataW H} {l : List (DataW H)} (h : d ∈ l) : Rows.uptoBulk d ≤ Rows.uptoBulkAll l := by
 induction l with
 | nil => cases h
 | cons x r ih =>
  simp only [Rows.uptoBulkAll]
  rcases List.mem_cons.1 h with e | e
  ·subst e; omega
  ·have := ih e; omega
theorem bulk_one {H : Type} (d : DataW H) : 1 ≤ Rows.uptoBulk d := by
 cases d with
 | lit l => cases l <;> simp [Rows.uptoBulk]
 | nil => simp [Rows.uptoBulk]
 | ptr d => simp [Rows.uptoBulk]
 | slice elems spare => simp [Rows.uptoBulk]
 | agg parts => simp [Rows.uptoBulk]
 | iface t d => simp [Rows.uptoBulk]
 | map entries => simp [Rows.uptoBulk]
 | held h => simp [Rows.uptoBulk]
theorem bulk_len {H : Type} (l : List (DataW H)) : l.length ≤ Rows.uptoBulkAll l := by
 induction l with
 | nil => simp [Rows.uptoBulkAll]
 | cons x r ih => have := bulk_one x; simp only [Rows.uptoBulkAll, List.length_cons]; omega
theorem range_mapM_mem {α β : Type} {f : β → Option α} : ∀ {l : List β} {r : List α}, l.mapM f = some r → r.length = l.length ∧ ∀ i ∈ l, ∃ y ∈ r, f i = some y
 | [], r, h => by simp at h; subst h; simp
 | x :: l, r, h => by
  rw [List.mapM_cons] at h
  cases hx : f x with
  | none => simp [hx] at h
  | some v =>
   cases hl : l.mapM f with
   | none => simp [hx, hl] at h
   | some vs =>
    simp [hx, hl] at h
    subst h
    obtain ⟨h1, h2⟩ := range_mapM_mem hl
    refine ⟨by simp [h1], fun i hi => ?_⟩
    rcases List.mem_cons.1 hi with rfl | hi
    ·exact ⟨v, by simp, hx⟩
    ·obtain ⟨y, hy, e⟩ := h2 i hi
     exact ⟨y, by simp [hy], e⟩
section
variable {P : Program} {H : Type} {enc : TypeId × Value → H} {w : World} {B : Nat}
theorem trod_fieldsU {n : Nat} (ih : ∀ (m : Nat) (t : TypeId) (vt : VT) (cs : List Value) (x : DataW H × List MemPlace), vtOk P m t vt = true → DataW.trod enc P w 0 (fun _ => true) true n t cs = some x → Rows.uptoBulk x.1 ≤ B → VIsU B (heap0 w) vt (cs.map (vOf1 w))) (cs : List Value) :
  ∀ (k off : Nat) (fs : List Field) (vs : List VT) (xs : List (DataW H × List MemPlace)), vtOks P k off fs vs = true → off + VT.sizes vs = cs.length →
   (fs.mapM fun f => DataW.trod enc P w 0 (fun _ => true) true n f.type ((cs.drop f.offset).take (P.cellsOf f.type))) = some xs → (∀ y ∈ xs, Rows.uptoBulk y.1 ≤ B) → VIssU B (heap0 w) vs ((cs.drop off).map (vOf1 w))
 | 0, off, fs, vs, xs, h, hl, hx, hB => by simp [vtOks] at h
 | k + 1, off, [], [], xs, h, hl, hx, hB => by
  simp only [VT.sizes] at hl
  show (cs.drop off).map (vOf1 w) = []
  rw [List.drop_eq_nil_of_le (by omega)]; rfl
 | k + 1, off, f :: fs, v :: vs, xs, h, hl, hx, hB => by
  simp only [vtOks, Bool.and_eq_true] at h
  obtain ⟨⟨⟨h1, h2⟩, h3⟩, h4⟩ := h
  have h1 := Nat.eq_of_beq_eq_true h1
  have h2 := Nat.eq_of_beq_eq_true h2
  rw [List.mapM_cons] at hx
  cases hy : DataW.trod enc P w 0 (fun _ => true) true n f.type ((cs.drop f.offset).take (P.cellsOf f.type)) with
  | none => simp [hy] at hx
  | some y =>
   cases hz : (fs.mapM fun f => DataW.trod enc P w 0 (fun _ => true) true n f.type ((cs.drop f.offset).take (P.cellsOf f.type))) with
   | none => simp [hy, hz] at hx
   | some ys =>
    have i1 := ih k f.type v _ y h3 hy (hB y (by simp [hy, hz] at hx; rw [← hx]; simp))
    simp only [VT.sizes] at hl
    have i2 := trod_fieldsU ih cs k (off + v.size) fs vs ys h4 (by omega) hz (fun y' hy' => hB y' (by simp [hy, hz] at hx; rw [← hx]; simp [hy']))
    rw [h1, h2] at i1
    refine ⟨?_, ?_⟩
    ·rw [← List.map_take]; exact i1
    ·rw [← List.map_drop, List.drop_drop]; exact i2
 | k + 1, off, [], v :: vs, xs, h, hl, hx, hB => by simp [vtOks] at h
 | k + 1, off, f :: fs, [], xs, h, hl, hx, hB => by simp [vtOks] at h
theorem trod_visU : ∀ (n m : Nat) (t : TypeId) (vt : VT) (cs : List Value) (x : DataW H × List MemPlace), vtOk P m t vt = true → DataW.trod enc P w 0 (fun _ => true) true n t cs = some x → Rows.uptoBulk x.1 ≤ B → VIsU B (heap0 w) vt (cs.map (vOf1 w)) := by
 intro n
 induction n with
 | zero => intro m t vt cs x _ h _; cases h
 | succ n ih =>
  intro m t vt cs x hv h hB
  cases m with
  | zero => simp [vtOk] at hv
  | succ m =>
   unfold vtOk at hv
   unfold DataW.trod at h
   split at hv
   ·rename_i hu
    rw [hu] at h
    split at h <;> rename_i he <;> first | (cases he; done) | skip
    ·exact ⟨_, rfl⟩
    ·cases h
   ·rename_i k k' hu
    rw [hu] at h
    have hk : k = k' := of_decide_eq_true hv
    subst hk
    split at h <;> rename_i he <;> first | (cases he; done) | skip
    ·rename_i k1 k2 nn
     cases he
     split at h
     ·rename_i hc
      obtain ⟨rfl, hw⟩ := hc
      simp only [Lit.wf, Bool.and_eq_true, decide_eq_true_eq] at hw
      exact ⟨nn, rfl, hw.1, hw.2⟩
     ·cases h
    ·cases h
   ·rename_i e ve hu
    simp only [Bool.and_eq_true] at hv
    obtain ⟨⟨hsz, hpos⟩, hok⟩ := hv
    have hsz := Nat.eq_of_beq_eq_true hsz
    have hpos := Nat.blt_eq.mp hpos
    rw [hu] at h
    split at h <;> rename_i he <;> first | (cases he; done) | skip
    ·exact ⟨_, rfl, .inl rfl⟩
    ·rename_i e2 a len cap
     cases he
     split at h
     ·rename_i hc
      obtain ⟨_, hlc, hcm⟩ := hc
      rw [hsz] at h
      cases hel : (List.range len).mapM (fun i => (w.cells? 0 (a.add (i * ve.size)) ve.size).bind (DataW.trod enc P w 0 (fun _ => true) true n e)) with
      | none => simp [hel] at h
      | some elems =>
       cases hre : (List.range (cap - len)).mapM (fun j => (w.cells? 0 (a.add ((len + j) * ve.size)) ve.size).bind (DataW.trod enc P w 0 (fun _ => true) true n e)) with
       | none => simp [hel, hre] at h
       | some rest =>
        obtain ⟨le1, me1⟩ := range_mapM_mem hel
        obtain ⟨le2, me2⟩ := range_mapM_mem hre
        rw [List.length_range] at le1 le2
        have hx1 : x.1 = .slice (elems.map (·.1)) (rest.map (·.1)) := by simp [hel, hre] at h; rw [← h]
        rw [hx1] at hB
        simp only [Rows.uptoBulk] at hB
        have hb1 := bulk_len (elems.map (·.1))
        have hb2 := bulk_len (rest.map (·.1))
        rw [List.length_map] at hb1 hb2
        have hcB : cap ≤ B := by omega
        have all : ∀ i, i < cap → ∃ ci y, w.cells? 0 (a.add (i * ve.size)) ve.size = some ci ∧ DataW.trod enc P w 0 (fun _ => true) true n e ci = some y ∧ Rows.uptoBulk y.1 ≤ B := by
         intro i hi
         have : ∃ y, (w.cells? 0 (a.add (i * ve.size)) ve.size).bind (DataW.trod enc P w 0 (fun _ => true) true n e) = some y ∧ Rows.uptoBulk y.1 ≤ B := by
          by_cases hil : i < len
          ·obtain ⟨y, hm, hy⟩ := me1 i (List.mem_range.2 hil)
           have := bulk_part (List.mem_map.2 ⟨y, hm, rfl⟩ : y.1 ∈ elems.map (·.1))
           exact ⟨y, hy, by omega⟩
          ·obtain ⟨y, hm, hy⟩ := me2 (i - len) (List.mem_range.2 (by omega))
           rw [show len + (i - len) = i by omega] at hy
           have := bulk_part (List.mem_map.2 ⟨y, hm, rfl⟩ : y.1 ∈ rest.map (·.1))
           exact ⟨y, hy, by omega⟩
         obtain ⟨y, hy, hyB⟩ := this
         cases hci : w.cells? 0 (a.add (i * ve.size)) ve.size with
         | none => simp [hci] at hy
         | some ci => exact ⟨ci, y, rfl, by simpa [hci] using hy, hyB⟩
        rcases Nat.eq_zero_or_pos cap with h0 | h0
        ·have hl0 : len = 0 := by omega
         subst h0 hl0
         exact ⟨_, rfl, .inr (.inl ⟨a, rfl⟩)⟩
        ·obtain ⟨c0, y0, hc0, _, _⟩ := all 0 h0
         obtain ⟨arr, te, fz, hw, hsp, _, _, _⟩ := cells_at hc0 hpos
         have ha0 : a.add (0 * ve.size) = a := by simp [Addr.add]
         rw [ha0] at hw hsp
         obtain ⟨b, o, sp⟩ := a
         simp only at hw hsp
         subst hsp
         have hop : openB w b = true := by simp [openB, hw]
         have key : ∀ i, i < cap → o + i * ve.size + ve.size ≤ arr.size ∧ VIsU B (heap0 w) ve ((blkOf w arr).gets (o + i * ve.size) ve.size) := by
          intro i hi
          obtain ⟨ci, y, hci, hy, hyB⟩ := all i hi
          obtain ⟨arr', te', fz', hw', _, hle, hlen, hget⟩ := cells_at hci hpos
          rw [addr_spot_add _ rfl] at hw' hle hget
          simp only at hw' hle hget
          rw [hw] at hw'
          cases hw'
          refine ⟨hle, ?_⟩
          rw [gets_eq (l := ci.map (vOf1 w)) (by simp [hlen]) (fun j hj => ?_)]
          ·exact ih m e ve ci y hok hy hyB
          ·have h1 := hget j hj
           rw [List.getElem?_eq_getElem (by omega)] at h1
           rw [blkOf_get w arr h1, List.getElem?_map, List.getElem?_eq_getElem (by omega)]
           rfl
         refine ⟨_, rfl, .inr (.inr ⟨b, o, len, cap, blkOf w arr, te, vOf1_slice w h0 hop, hlc, h0, Nat.le_trans hcm (by decide), hcB, heap0_get hw, ?_, fun i hi => (key i hi).2⟩)⟩
         have := (key (cap - 1) (by omega)).1
         rw [blkOf_size]
         have e1 : cap * ve.size = (cap - 1) * ve.size + ve.size := by
          conv => lhs; rw [show cap = (cap - 1) + 1 by omega, Nat.add_mul, Nat.one_mul]
         omega
     ·cases h
    ·cases h
   ·rename_i fs vs hu
    simp only [Bool.and_eq_true] at hv
    obtain ⟨hsz, hok⟩ := hv
    have hsz := Nat.eq_of_beq_eq_true hsz
    rw [hu] at h
    dsimp only at h
    by_cases hl : cs.length = P.cellsOf t
    ·rw [if_pos hl] at h
     cases hx : (fs.toList.mapM fun f => DataW.trod enc P w 0 (fun _ => true) true n f.type ((cs.drop f.offset).take (P.cellsOf f.type))) with
     | none => simp [hx] at h
     | some xs =>
      have hx1 : x.1 = .agg (xs.map (·.1)) := by simp [hx] at h; rw [← h]
      rw [hx1] at hB
      simp only [Rows.uptoBulk] at hB
      have := trod_fieldsU ih cs m 0 fs.toList vs xs hok (by omega) hx fun y hy => by
       have := bulk_part (List.mem_map.2 ⟨y, hy, rfl⟩ : y.1 ∈ xs.map (·.1))
       omega
      rw [List.drop_zero] at this
      exact this
    ·rw [if_neg hl] at h; cases h
   ·rename_i k e k' ve hu
    simp only [Bool.and_eq_true] at hv
    obtain ⟨⟨⟨hk, hsz⟩, hse⟩, hok⟩ := hv
    have hk := Nat.eq_of_beq_eq_true hk
    have hsz := Nat.eq_of_beq_eq_true hsz
    have hse := Nat.eq_of_beq_eq_true hse
    subst hk
    rw [hu] at h
    dsimp only at h
    by_cases hl : cs.length = P.cellsOf t
    ·rw [if_pos hl, hse] at h
     cases hx : ((List.range k).mapM fun i => DataW.trod enc P w 0 (fun _ => true) true n e ((cs.drop (i * ve.size)).take ve.size)) with
     | none => simp [hx] at h
     | some xs =>
      refine ⟨by simp; omega, fun i hi => ?_⟩
      obtain ⟨y, hm, hy⟩ := (range_mapM_mem hx).2 i (List.mem_range.2 hi)
      have hx1 : x.1 = .agg (xs.map (·.1)) := by simp [hx] at h; rw [← h]
      rw [hx1] at hB
      simp only [Rows.uptoBulk] at hB
      have := bulk_part (List.mem_map.2 ⟨y, hm, rfl⟩ : y.1 ∈ xs.map (·.1))
      rw [← List.map_drop, ← List.map_take]
      exact ih m e ve _ y hok hy (by omega)
    ·rw [if_neg hl] at h; cases h
   ·cases hv
end
theorem VSlU.vsl {B : Nat} {h : Heap} {sz : Nat} {Q Q' : List V → Prop} {v : V} (hv : VSlU B h sz Q v) (hq : ∀ l, Q l → Q' l) : VSl h sz Q' v := by
 rcases hv with h1 | h1 | ⟨b, o, len, cap, c, ce, e, h1, h2, h3, _, h4, h5, h6⟩
 ·exact .inl h1
 ·exact .inr (.inl h1)
 ·exact .inr (.inr ⟨b, o, len, cap, c, ce, e, h1, h2, h3, h4, h5, fun i hi => hq _ (h6 i hi)⟩)
mutual
theorem VIsU.vis {B : Nat} {h : Heap} : ∀ (t : VT) (cs : List V), VIsU B h t cs → VIs h t cs
 | .bool, _, hv => hv
 | .int _, _, hv => hv
 | .slice e, _, ⟨v, e1, hv⟩ => ⟨v, e1, hv.vsl fun l => VIsU.vis e l⟩
 | .struct fs, cs, hv => VIssU.vis fs cs hv
 | .array n e, cs, ⟨h1, h2⟩ => ⟨h1, fun i hi => VIsU.vis e _ (h2 i hi)⟩
theorem VIssU.vis {B : Nat} {h : Heap} : ∀ (ts : List VT) (cs : List V), VIssU B h ts cs → VIss h ts cs
 | [], _, hv => hv
 | t :: r, cs, ⟨h1, h2⟩ => ⟨VIsU.vis t _ h1, VIssU.vis r _ h2⟩
end
end Go.Proofs.Ytmimialblhlklaa
