/- The document's log: numbers, sectors filled up. -/
import Derived.Test.YtakgjjbmniilhaaMg8
import Derived.Test.YtakgjjbmniilhaaIrR
set_option linter.unusedVariables false
set_option linter.unusedSimpArgs false
set_option linter.unusedSimpArgs false
set_option maxRecDepth 100000
set_option linter.unusedVariables false
set_option linter.unusedSimpArgs false
namespace Go.Proofs.Ytakgjjbmniilhaa
open Go Go.Vm
attribute [-go_sem] sz_101
variable {h g : Heap} {R W M N : Set'}
theorem appL {n0 : Nat} {S : Set'} {v x : V} {l d : List V} (ho : Own n0 g v l 5) (hn : n0 ≤ g.n) (hd : LR g S x d) (hb : Byt d) (hl : l.length + d.length ≤ 100000000) : ∃ v' G r w, appE 5 1 1 v x g = some ⟨v', G, r, w⟩ ∧ Own n0 G v' (l ++ d) 5 ∧ g.n ≤ G.n ∧ (∀ b, b < n0 → G.get b = g.get b) ∧ ∀ b ∈ w, n0 ≤ b := by
  obtain ⟨q1, rs, q2⟩ := first_lr' hd
  obtain ⟨v2, G, rr, ww, hap, ho2, nG, lG, wG, kG, tG⟩ := app_own (bytes := 1) ho hn q1 q2 hb.allOne (by omega) (by omega)
  exact ⟨v2, G, rr, ww, hap, ho2, nG, lG, wG⟩
end Go.Proofs.Ytakgjjbmniilhaa
set_option maxRecDepth 100000
set_option linter.unusedVariables false
set_option linter.unusedSimpArgs false
namespace Go.Proofs.Ytakgjjbmniilhaa
open Go Go.Vm
attribute [-go_sem] sz_101
variable {h g : Heap} {R W M N : Set'}
end Go.Proofs.Ytakgjjbmniilhaa
set_option maxRecDepth 100000
set_option linter.unusedVariables false
set_option linter.unusedSimpArgs false
namespace Go.Proofs.Ytakgjjbmniilhaa
open Go Go.Vm
attribute [-go_sem] sz_101
variable {h g : Heap} {R W M N : Set'}
end Go.Proofs.Ytakgjjbmniilhaa
set_option maxRecDepth 100000
set_option linter.unusedVariables false
set_option linter.unusedSimpArgs false
namespace Go.Proofs.Ytakgjjbmniilhaa
open Go Go.Vm
attribute [-go_sem] sz_101
variable {h g : Heap} {R W M N : Set'}
theorem cvSD {P : Program} {tm : Tm} {h : Heap} {K : V → Heap → Set' → Set' → Prop} (x : Operand) : LOpD P tm h (.convert 22 9 x) K = onO (evV tm x) fun a => onO (convV P 22 9 a h) fun r => K r.1 h (fun x => x ∈ r.2) (fun x => x ∈ ([] : List Nat)) := by
  apply LOpD_convert; decide
theorem conv_lrB {S : Set'} {v : V} {l : List V} (hv : LR h S v l) (hl : Byt l) : ∃ rs, convV Try.prog 22 9 v h = some (.str (strB l), rs) ∧ ∀ b ∈ rs, S b ∧ b < h.n := by
  rcases hv with ⟨rfl, rfl | ⟨a, rfl⟩⟩ | ⟨b, o, cap, ex, c, ce, rfl, hS, hb, hs, hg⟩
  · exact ⟨[], by simp [convV, Try.underlying22, Try.underlying9, Try.underlying5]; rfl, fun b h => by cases h⟩
  · exact ⟨[], by simp [convV, Try.underlying22, Try.underlying9, Try.underlying5]; rfl, fun b h => by cases h⟩
  · exact ⟨_, conv_str hb hs hg hl, fun x hx => by rw [List.mem_singleton.1 hx]; exact ⟨hS, Heap.lt_of_get hb⟩⟩
end Go.Proofs.Ytakgjjbmniilhaa
set_option maxRecDepth 100000
set_option linter.unusedVariables false
set_option linter.unusedSimpArgs false
namespace Go.Proofs.Ytakgjjbmniilhaa
open Go Go.Vm
attribute [-go_sem] sz_101
def LRc (h : Heap) (R : Set') (v : V) (l : List V) : Prop := LR h R v l ∧ capOk v
theorem Own.lrc {n0 : Nat} {h : Heap} {v : V} {l : List V} {e : TypeId} (ho : Own n0 h v l e) : LRc h (fun b => n0 ≤ b) v l := ⟨ho.lr, by
  rcases ho with ⟨rfl, rfl | ⟨b, c, rfl, _⟩⟩ | ⟨b, x, c, h0, rfl, _⟩
  · exact Nat.le_refl _
  · exact Nat.le_refl _
  · exact Nat.le_refl _⟩
end Go.Proofs.Ytakgjjbmniilhaa
set_option maxRecDepth 100000
set_option linter.unusedVariables false
set_option linter.unusedSimpArgs false
namespace Go.Proofs.Ytakgjjbmniilhaa
open Go Go.Vm
attribute [-go_sem] sz_101
end Go.Proofs.Ytakgjjbmniilhaa
set_option maxRecDepth 100000
set_option linter.unusedVariables false
set_option linter.unusedSimpArgs false
namespace Go.Proofs.Ytakgjjbmniilhaa
open Go Go.Vm
attribute [-go_sem] sz_101
end Go.Proofs.Ytakgjjbmniilhaa
set_option maxRecDepth 100000
set_option linter.unusedVariables false
set_option linter.unusedSimpArgs false
namespace Go.Proofs.Ytakgjjbmniilhaa
open Go Go.Vm
attribute [-go_sem] sz_101
end Go.Proofs.Ytakgjjbmniilhaa
set_option maxRecDepth 100000
set_option linter.unusedVariables false
set_option linter.unusedSimpArgs false
namespace Go.Proofs.Ytakgjjbmniilhaa
open Go Go.Vm
attribute [-go_sem] sz_101
variable {h g : Heap} {R W M N : Set'} {rd rp fr ct : Nat} {D : DS} {G : LgS}
end Go.Proofs.Ytakgjjbmniilhaa
set_option maxRecDepth 100000
set_option linter.unusedVariables false
set_option linter.unusedSimpArgs false
namespace Go.Proofs.Ytakgjjbmniilhaa
open Go Go.Vm
attribute [-go_sem] sz_101
variable {h g : Heap} {R W M N : Set'} {rd rp fr ct : Nat} {D : DS} {G : LgS}
end Go.Proofs.Ytakgjjbmniilhaa
set_option maxRecDepth 100000
set_option linter.unusedVariables false
set_option linter.unusedSimpArgs false
namespace Go.Proofs.Ytakgjjbmniilhaa
open Go Go.Vm
attribute [-go_sem] sz_101
variable {h g : Heap} {R W M N : Set'} {rd rp fr ct : Nat} {D : DS} {G : LgS}
end Go.Proofs.Ytakgjjbmniilhaa
set_option maxRecDepth 100000
set_option linter.unusedVariables false
set_option linter.unusedSimpArgs false
namespace Go.Proofs.Ytakgjjbmniilhaa
open Go Go.Vm
attribute [-go_sem] sz_101
variable {D : DS} {fr ct : Nat}
theorem seen_write (D : DS) (s : Nat) (l : List V) (x : Nat) : (D.write s l).seen x = if x = s then l else D.seen x := by
  unfold DS.seen DS.write
  simp only
  by_cases h : x = s
  · rw [if_pos h, if_pos h]; simp
  · rw [if_neg h, if_neg h]
theorem seen_flush (D : DS) (a m x : Nat) : (D.flush a m).seen x = D.seen x := by
  by_cases h : a ≤ x ∧ x < a + m
  · unfold DS.seen DS.flush
    simp only [if_pos h, List.getLast?_nil]
    rfl
  · unfold DS.seen DS.flush
    simp only [if_neg h]
theorem seen_new (n x : Nat) : (DS.new n).seen x = zB 128 := by
  have : (DS.new n).seen x = ze_101 := rfl
  rw [this, ze_eq, secN_eq]; rfl
def Few (D : DS) (k : Nat) : Prop := ∀ s, (D.pe s).length ≤ k
theorem Few.write {k s : Nat} {l : List V} (h : Few D k) : Few (D.write s l) (k + 1) := fun x => by
  unfold DS.write
  simp only
  split
  · rw [List.length_append]; have := h s; simp; omega
  · have := h x; omega
theorem Few.flush {k a m : Nat} (h : Few D k) : Few (D.flush a m) k := fun x => by
  unfold DS.flush
  simp only
  split
  · simp
  · exact h x
theorem Few.mono {k j : Nat} (h : Few D k) (hk : k ≤ j) : Few D j := fun s => Nat.le_trans (h s) hk
theorem few_new (n : Nat) : Few (DS.new n) 0 := fun s => Nat.le_refl _
theorem Few.lt {k : Nat} (h : Few D k) (hk : k < 1000000000) : ∀ s, (D.pe s).length < 1000000000 := fun s => Nat.lt_of_le_of_lt (h s) hk
theorem few_app {k : Nat} {G : LgS} {l : List V} {n : Nat} (h : Few D k) : ∀ j, Few (appW D fr ct G l n j) (k + j)
  | 0 => h
  | j + 1 => (few_app h j).write
def BlankS (D : DS) (fr ct : Nat) : Prop := ∀ s, fr ≤ s → s < fr + ct → D.seen s = zB 128
theorem blank_new (n fr ct : Nat) : BlankS (DS.new n) fr ct := fun s _ _ => seen_new n s
theorem few_lay {k : Nat} {H : Hd} (h : Few D k) : Few (layD D fr ct H) (k + 1) := h.write.flush
theorem recA_zero : recA (zB 128) = none := by
  unfold recA
  refine if_neg fun h => ?_
  have : bAt (zB 128) 17 = 0 := by decide
  have h2 := h.1.2.1
  omega
def H1 : Hd := ⟨1, 0, 0, 0, 1⟩
def G1 : LgS := ⟨H1, 1, 0, 0, [], []⟩
theorem whichS_zero (n i : Nat) (o : Hd) : whichS n i (zB 128) o = some o := by unfold whichS; rw [if_pos rfl]
theorem half_lt {ct i : Nat} {ha : Nat} (hha : ha < 2) (hi : i < (ct - 2) / 2) : ha * ((ct - 2) / 2) + i < 2 * ((ct - 2) / 2) := by
  have : ha = 0 ∨ ha = 1 := by omega
  rcases this with e | e <;> rw [e] <;> omega
theorem open_blank (hb : BlankS D fr ct) (hc : 16 ≤ ct) : openA D fr ct = some (layD D fr ct H1, G1) := by
  unfold openA
  rw [hb fr (by omega) (by omega), hb (fr + 1) (by omega) (by omega)]
  have hw : whichA ((ct - 2) / 2) (zB 128) (zB 128) = some h00 := by
    unfold whichA; rw [whichS_zero ((ct - 2) / 2) 0 h00]; exact whichS_zero ((ct - 2) / 2) 1 h00
  rw [hw, Option.map_some]
  have hs : secsN h00.sz = 0 := rfl
  have hl : loadF D fr ct h00 = ([], 0, 1) := by
    unfold loadF
    rw [hs, show (ct - 2) / 2 - 0 = ((ct - 2) / 2 - 1) + 1 by omega, runL]
    have : secA D fr ct h00.ha 0 = zB 128 := hb _ (by omega) (by show fr + 2 + 0 * _ + 0 < _; omega)
    rw [this, recA_zero]; rfl
  rw [hl]
  rfl
theorem okH1 : H1.Ok := ⟨by decide, by decide, by decide, by decide, by decide, by decide⟩
theorem mayH1 (n : Nat) : mayH n 1 H1 := ⟨by decide, by decide, by decide, by decide, Nat.zero_le _⟩
end Go.Proofs.Ytakgjjbmniilhaa
set_option maxRecDepth 100000
set_option linter.unusedVariables false
set_option linter.unusedSimpArgs false
namespace Go.Proofs.Ytakgjjbmniilhaa
open Go Go.Vm
attribute [-go_sem] sz_101
variable {h g : Heap} {R W M N : Set'} {rd rp fr ct : Nat} {D : DS} {G : LgS}
end Go.Proofs.Ytakgjjbmniilhaa
set_option maxRecDepth 100000
set_option linter.unusedVariables false
set_option linter.unusedSimpArgs false
namespace Go.Proofs.Ytakgjjbmniilhaa
open Go Go.Vm
attribute [-go_sem] sz_101
variable {h g : Heap} {R W M N : Set'} {rd rp fr ct : Nat} {D : DS} {G : LgS}
end Go.Proofs.Ytakgjjbmniilhaa
set_option maxRecDepth 100000
set_option linter.unusedVariables false
set_option linter.unusedSimpArgs false
namespace Go.Proofs.Ytakgjjbmniilhaa
open Go Go.Vm
attribute [-go_sem] sz_101
variable {h g : Heap} {R W M N : Set'} {rd rp fr ct : Nat} {D : DS} {G : LgS}
end Go.Proofs.Ytakgjjbmniilhaa
set_option maxRecDepth 100000
set_option linter.unusedVariables false
set_option linter.unusedSimpArgs false
namespace Go.Proofs.Ytakgjjbmniilhaa
open Go Go.Vm
attribute [-go_sem] sz_101
variable {h g : Heap} {R W M N : Set'} {rd rp fr ct : Nat} {D : DS} {G : LgS}
end Go.Proofs.Ytakgjjbmniilhaa
set_option maxRecDepth 100000
set_option linter.unusedVariables false
set_option linter.unusedSimpArgs false
namespace Go.Proofs.Ytakgjjbmniilhaa
open Go Go.Vm
attribute [-go_sem] sz_101
variable {h g : Heap} {R W M N : Set'} {rd rp fr ct : Nat} {D : DS} {G : LgS}
end Go.Proofs.Ytakgjjbmniilhaa
set_option maxRecDepth 100000
set_option linter.unusedVariables false
set_option linter.unusedSimpArgs false
namespace Go.Proofs.Ytakgjjbmniilhaa
open Go Go.Vm
attribute [-go_sem] sz_101
variable {h g : Heap} {R W M N : Set'} {rd rp fr ct : Nat} {D : DS} {G : LgS}
end Go.Proofs.Ytakgjjbmniilhaa
set_option maxRecDepth 100000
set_option linter.unusedVariables false
set_option linter.unusedSimpArgs false
namespace Go.Proofs.Ytakgjjbmniilhaa
open Go Go.Vm
attribute [-go_sem] sz_101
variable {h g : Heap} {R W M N : Set'} {rd rp fr ct : Nat} {D : DS} {G : LgS}
end Go.Proofs.Ytakgjjbmniilhaa
set_option maxRecDepth 100000
set_option linter.unusedVariables false
set_option linter.unusedSimpArgs false
namespace Go.Proofs.Ytakgjjbmniilhaa
open Go Go.Vm
attribute [-go_sem] sz_101
variable {h g : Heap} {R W M N : Set'} {rd rp fr ct : Nat} {D : DS} {G : LgS}
end Go.Proofs.Ytakgjjbmniilhaa
set_option maxRecDepth 100000
set_option linter.unusedVariables false
set_option linter.unusedSimpArgs false
namespace Go.Proofs.Ytakgjjbmniilhaa
open Go Go.Vm
attribute [-go_sem] sz_101
variable {h g : Heap} {R W M N : Set'} {rd rp fr ct : Nat} {D : DS} {G : LgS}
end Go.Proofs.Ytakgjjbmniilhaa
set_option maxRecDepth 100000
set_option linter.unusedVariables false
set_option linter.unusedSimpArgs false
namespace Go.Proofs.Ytakgjjbmniilhaa
open Go Go.Vm
attribute [-go_sem] sz_101
variable {h g : Heap} {R W M N N' : Set'} {bd lp rd rp fr ct : Nat} {D : DS} {G : LgS}
end Go.Proofs.Ytakgjjbmniilhaa
set_option maxRecDepth 100000
set_option linter.unusedVariables false
set_option linter.unusedSimpArgs false
namespace Go.Proofs.Ytakgjjbmniilhaa
open Go Go.Vm
attribute [-go_sem] sz_101
variable {h g : Heap} {R W M N N' : Set'} {bd lp rd rp fr ct : Nat} {D : DS} {G : LgS}
end Go.Proofs.Ytakgjjbmniilhaa
set_option maxRecDepth 100000
set_option linter.unusedVariables false
set_option linter.unusedSimpArgs false
namespace Go.Proofs.Ytakgjjbmniilhaa
open Go Go.Vm
attribute [-go_sem] sz_101
variable {h g : Heap} {R W M N N' : Set'} {bd lp rd rp fr ct : Nat} {D : DS} {G : LgS}
end Go.Proofs.Ytakgjjbmniilhaa
set_option maxRecDepth 100000
set_option linter.unusedVariables false
set_option linter.unusedSimpArgs false
namespace Go.Proofs.Ytakgjjbmniilhaa
open Go Go.Vm
attribute [-go_sem] sz_101
variable {h g : Heap} {R W M N N' : Set'} {bd lp rd rp fr ct : Nat} {D : DS} {G : LgS}
end Go.Proofs.Ytakgjjbmniilhaa
set_option maxRecDepth 100000
set_option linter.unusedVariables false
set_option linter.unusedSimpArgs false
namespace Go.Proofs.Ytakgjjbmniilhaa
open Go Go.Vm
attribute [-go_sem] sz_101
variable {h g : Heap} {R W M N N' : Set'} {bd lp rd rp fr ct : Nat} {D : DS} {G : LgS}
end Go.Proofs.Ytakgjjbmniilhaa
set_option maxRecDepth 100000
set_option linter.unusedVariables false
set_option linter.unusedSimpArgs false
namespace Go.Proofs.Ytakgjjbmniilhaa
open Go Go.Vm
attribute [-go_sem] sz_101
variable {h g : Heap} {R W M N : Set'} {bd lp fr ct : Nat} {D : DS} {G : LgS}
theorem partsN_le (n : Nat) : (partsN n).1 ≤ 64 := by
  unfold partsN
  split
  · simp
  · simp only; omega
theorem cvS22 {M : MP} {R W : Set'} {tm : Tm} {h : Heap} {K : V → Heap → Prop} (x : Operand) : LOp M R W tm h (.convert 22 22 x) K = onO (evV tm x) fun a => onO (selfV M.P 22 a h) fun p => allB R p.r ∧ allB W p.w ∧ K p.v p.h := by
  have hb : Nat.beq 22 22 = true := rfl
  unfold LOp SOp bare; simp only [evP, hb]
  cases evV tm x with
  | none => simp [onO]
  | some a => simp only [onO_some]; cases selfV M.P 22 a h <;> simp [onO]
end Go.Proofs.Ytakgjjbmniilhaa
set_option maxRecDepth 100000
set_option linter.unusedVariables false
set_option linter.unusedSimpArgs false
namespace Go.Proofs.Ytakgjjbmniilhaa
open Go Go.Vm
attribute [-go_sem] sz_101
variable {h g : Heap} {R W M N N' : Set'} {bd lp rd rp fr ct : Nat} {D : DS} {G : LgS}
end Go.Proofs.Ytakgjjbmniilhaa
set_option maxRecDepth 100000
set_option linter.unusedVariables false
set_option linter.unusedSimpArgs false
namespace Go.Proofs.Ytakgjjbmniilhaa
open Go Go.Vm
attribute [-go_sem] sz_101
variable {h g : Heap} {R W M N M' N' : Set'} {bd lp rd rp fr ct : Nat} {D D' : DS} {G G' : LgS}
end Go.Proofs.Ytakgjjbmniilhaa
set_option maxRecDepth 100000
set_option linter.unusedVariables false
set_option linter.unusedSimpArgs false
namespace Go.Proofs.Ytakgjjbmniilhaa
open Go Go.Vm
attribute [-go_sem] sz_101
variable {h g : Heap} {R W M N : Set'} {bd lp fr ct : Nat} {D : DS} {G : LgS}
theorem full_lr {v : V} {S : Set'} {l : List V} (hv : LR h S v l) (hc : capOk v) {a b : Nat} (hab : a < b) (hb : b ≤ l.length) : ∃ v', sliceV Try.prog 22 v (some (a : Int)) (some (b : Int)) (some (b : Int)) = some v' ∧ LR h S v' ((l.drop a).take (b - a)) := by
  rcases hv with ⟨rfl, _⟩ | ⟨p, o, cap, ex, c, ce, rfl, hR, hp, hs, hg⟩
  · simp at hb; omega
  · have hcl : l.length ≤ cap := hc
    have hbv : boundsV l.length cap (some (a : Int)) (some (b : Int)) (some (b : Int)) = some (a, b, b) := by
      simp only [boundsV, Int.toNat_natCast]
      rw [if_pos (by constructor <;> omega)]
      simp only []
      rw [if_pos (by constructor <;> omega)]
      simp only []
      rw [if_pos (by constructor <;> omega)]
    have hln : ((l.drop a).take (b - a)).length = b - a := by rw [List.length_take, List.length_drop]; omega
    refine ⟨.slice (some (p, o + a)) (b - a) (b - a) true, ?_, .inr ⟨p, o + a, b - a, true, c, ce, by rw [hln], hR, hp, by rw [hln]; omega, ?_⟩⟩
    · simp only [sliceV, Try.underlying22, sz_5, hbv]
      rw [w_beq_f (show b ≠ a by omega), Nat.mul_one]
    · rw [hln]
      refine Blk.gets_ext (fun j hj => ?_) hln.symm
      rw [hln] at hj
      have := Blk.gets_get c l.length o (a + j) (by omega)
      rw [hg] at this
      rw [List.getD_eq_getElem?_getD, List.getElem?_take, if_pos hj, List.getElem?_drop, this, show o + a + j = o + (a + j) by omega]; rfl
def snapB (l : List V) (p : Nat) : List V := (l.drop (120 * p)).take 120
set_option maxHeartbeats 8000000 in
theorem seq73 {b1 b2 y : Nat} {v : V} {l : List V} {S : Set'} (I : Nat → Heap → Prop) (h1 : ∃ c, h.get b1 = some (.cells c 22) ∧ c.size = 1 ∧ c.get 0 = v) (h2 : ∃ c, h.get b2 = some (.cells c 3) ∧ c.size = 1 ∧ c.get 0 = .int .i64 120) (hv : LR h S v l) (hc : capOk v) (hll : l.length ≤ 1000000) (hI0 : I 0 h)
    (hx : ∀ p g, I p g → h.n ≤ g.n ∧ ∀ b, S b ∨ b = b1 ∨ b = b2 → b < h.n → g.get b = h.get b) (hW : ∀ b, W b → b < h.n)
    (hround : ∀ (p : Nat) g w, 120 * p < l.length → I p g → LR g S w (snapB l p) → SY ⟨Try.prog, true⟩ y [w] g (fun _ => True) (fun b => h.n ≤ b ∨ W b) (fun x g' => x = .bool true ∧ I (p + 1) g')) :
    SF ⟨Try.prog, true⟩ 73 [.yield y, .ptr (some (b1, 0)), .ptr (some (b2, 0))] h (fun _ => True) W fun _ g => I (secsN l.length) g := by
  obtain ⟨x1, p1, s1, q1⟩ := h1
  obtain ⟨x2, p2, s2, q2⟩ := h2
  refine SF.go hm Try.func73 ir73_eq ?_
  simp -implicitDefEqProofs (disch := (first | omega | (simp -implicitDefEqProofs only [szs, ne_eq] <;> omega) | fail)) only [go_sem, seval, ↓reduceIte, reduceCtorEq, ir73]
  refine GLoop.inv hm (fun k f g => f.mks = [] ∧ f.tm.n = 31 ∧ f.tm.get 0 = some (.yield y) ∧ f.tm.get 1 = some (.ptr (some (b1, 0))) ∧ f.tm.get 2 = some (.ptr (some (b2, 0))) ∧ ∃ p : Nat, p + k = secsN l.length ∧ f.tm.get 4 = some (.int .i64 ((120 * p : Nat) : Int)) ∧ I p g) (secsN l.length) ?_ ?_
  · exact ⟨rfl, rfl, by simp -implicitDefEqProofs (disch := (first | omega | (simp -implicitDefEqProofs only [szs, ne_eq] <;> omega) | fail)) only [go_sem, seval, ↓reduceIte, reduceCtorEq], by simp -implicitDefEqProofs (disch := (first | omega | (simp -implicitDefEqProofs only [szs, ne_eq] <;> omega) | fail)) only [go_sem, seval, ↓reduceIte, reduceCtorEq], by simp -implicitDefEqProofs (disch := (first | omega | (simp -implicitDefEqProofs only [szs, ne_eq] <;> omega) | fail)) only [go_sem, seval, ↓reduceIte, reduceCtorEq], 0, by omega, by simp -implicitDefEqProofs (disch := (first | omega | (simp -implicitDefEqProofs only [szs, ne_eq] <;> omega) | fail)) only [go_sem, seval, ↓reduceIte, reduceCtorEq], hI0⟩
  rintro k ⟨⟨n', tr⟩, mks⟩ g ⟨hmk, hn', t0, t1, t2, p, hpk, t4, hI⟩
  simp only [Tm.get_mk] at hmk hn' t0 t1 t2 t4
  subst hmk hn'
  obtain ⟨hgn, hgk⟩ := hx p g hI
  have P1 := (hgk b1 (.inr (.inl rfl)) (Heap.lt_of_get p1)).trans p1
  have P2 := (hgk b2 (.inr (.inr rfl)) (Heap.lt_of_get p2)).trans p2
  have hvg : LR g S v l := hv.same fun b hb hlt => hgk b (.inl hb) hlt
  have hlen := hvg.lenV Try.underlying22
  by_cases hp : 120 * p < l.length
  rotate_left
  · have hcc : ¬ ((120 * p : Nat) : Int) < (l.length : Int) := by omega
    have hpe : p = secsN l.length := by
      have : secsN l.length = (l.length + 119) / 120 := rfl
      omega
    simp -implicitDefEqProofs (disch := (first | omega | (simp -implicitDefEqProofs only [szs, ne_eq] <;> omega) | fail)) only [go_sem, seval, ↓reduceIte, reduceCtorEq, ir73_l0, undefV, t0, t1, t2, t4, P1, s1, q1, ↓hlen, hcc]
    exact hpe ▸ hI
  have hcc : ((120 * p : Nat) : Int) < (l.length : Int) := by omega
  obtain ⟨w1, hs1, hw1⟩ := rest_lr hvg hc (k := 120 * p) (by omega)
  obtain ⟨hw1, _⟩ := hw1 hp
  have hlen1 := hw1.lenV Try.underlying22
  rw [List.length_drop] at hlen1
  obtain ⟨kk, ekk⟩ : ∃ kk, kk = min (l.length - 120 * p) 120 := ⟨_, rfl⟩
  have hmin : (if ((l.length - 120 * p : Nat) : Int) < 120 then ((l.length - 120 * p : Nat) : Int) else 120) = (kk : Int) := by
    split <;> omega
  have e1 : ((120 * p : Nat) : Int) + (kk : Int) = ((120 * p + kk : Nat) : Int) := by omega
  have e2 : ((120 * p : Nat) : Int) + 120 = ((120 * (p + 1) : Nat) : Int) := by omega
  obtain ⟨w2, hs2, hw2⟩ := full_lr hvg hc (a := 120 * p) (b := 120 * p + kk) (by omega) (by omega)
  have hsb : (l.drop (120 * p)).take (120 * p + kk - 120 * p) = snapB l p := by
    unfold snapB
    by_cases h1 : l.length - 120 * p ≤ 120
    · rw [List.take_of_length_le (by rw [List.length_drop]; omega), List.take_of_length_le (by rw [List.length_drop]; omega)]
    · rw [show 120 * p + kk - 120 * p = 120 by omega]
  rw [hsb] at hw2
  have hsN : secsN l.length = (l.length + 119) / 120 := rfl
  simp -implicitDefEqProofs (disch := (first | omega | (simp -implicitDefEqProofs only [szs, ne_eq] <;> omega) | fail)) only [go_sem, seval, ↓reduceIte, reduceCtorEq, ir73_l0, undefV, t0, t1, t2, t4, P1, s1, q1, P2, s2, q2, ↓hlen, hcc, hs1, ↓hlen1, ↓hmin, e1, hs2]
  refine GYield.of (SY.foot (hround p g w2 hp hI hw2) (fun _ h => h) (fun _ h => h)) ?_
  rintro x g2 ⟨rfl, hI2⟩
  have P2' := ((hx (p + 1) g2 hI2).2 b2 (.inr (.inr rfl)) (Heap.lt_of_get p2)).trans p2
  simp -implicitDefEqProofs (disch := (first | omega | (simp -implicitDefEqProofs only [szs, ne_eq] <;> omega) | fail)) only [go_sem, seval, ↓reduceIte, reduceCtorEq, t0, t1, t2, t4, undefV, P2', s2, q2, e2]
  exact ⟨k - 1, by omega, p + 1, by omega, rfl, hI2⟩
theorem chunk43 {v : V} (hv : v.one = true) : SF Try.prog 43 [v, .int .i64 120] h R W fun r g => r = .func 73 [] [.ptr (some (h.n, 0)), .ptr (some (h.n + 1, 0))] ∧ g = (h.push (.cells (Blk.of [v]) 22)).push (.cells (Blk.of [.int .i64 120]) 3) := by
  have hc := one_cells hv
  refine SF.go hm Try.func43 ir43_eq ?_
  simp -implicitDefEqProofs (disch := (first | omega | (simp -implicitDefEqProofs only [szs, ne_eq] <;> omega) | fail)) only [go_sem, seval, ↓reduceIte, reduceCtorEq, ir43, ↓hv, ↓hc]
end Go.Proofs.Ytakgjjbmniilhaa
set_option maxRecDepth 100000
set_option linter.unusedVariables false
set_option linter.unusedSimpArgs false
namespace Go.Proofs.Ytakgjjbmniilhaa
open Go Go.Vm
attribute [-go_sem] sz_101
variable {h g : Heap} {R W M N : Set'} {bd lp fr ct : Nat} {D : DS} {G : LgS}
def snapS (l : List V) (p : Nat) : List V := padB (bigB 0 ++ snapB l p)
def snapW (D : DS) (base : Nat) (l : List V) : Nat → DS
  | 0 => D
  | p + 1 => (snapW D base l p).write (base + p) (snapS l p)
theorem snapW_n (D : DS) (base : Nat) (l : List V) : ∀ k, (snapW D base l k).n = D.n
  | 0 => rfl
  | k + 1 => snapW_n D base l k
theorem snapW_pe (D : DS) (base : Nat) (l : List V) : ∀ k s, base + k ≤ s → (snapW D base l k).pe s = D.pe s
  | 0, _, _ => rfl
  | k + 1, s, h => by
    show (if s = _ then _ else _) = _
    rw [if_neg (by omega)]
    exact snapW_pe D base l k s (by omega)
theorem snapB_len (l : List V) (p : Nat) : (snapB l p).length ≤ 120 := by unfold snapB; rw [List.length_take]; omega
theorem bigB_len8 : (bigB 0).length = 8 := by decide
noncomputable def lvK (tr : Tr V) (m : Nat) : Loopv := ⟨.ready, none, ⟨95, tr⟩, [56], (rc18 0).1, (rc18 0).2, m⟩
structure CkI (h g : Heap) (M : Set') (bd y b8 base : Nat) (D : DS) (l : List V) (lv : Loopv) (p : Nat) : Prop where
  n : h.n ≤ g.n
  k : ∀ b, b < h.n → ¬ M b → b ≠ y → b ≠ b8 → g.get b = h.get b
  y : g.get y = some (.loop lv)
  c : ∃ c, g.get b8 = some (.cells c 3) ∧ c.size = 1 ∧ c.ro = false ∧ c.get 0 = .int .i64 ((base + p : Nat) : Int)
  x : ∃ Mi, DkX g Mi bd (snapW D base l p) ∧ ∀ k, Mi k → M k ∨ h.n ≤ k
set_option maxHeartbeats 8000000 in
theorem rnd18 {y m b2 b8 base p : Nat} {tr : Tr V} {w : V} {l : List V} {S : Set'} (hI : CkI h g M bd y b8 base D l (lvK tr m) p) (hMl : ∀ k, M k → k < h.n ∧ k ≠ y ∧ k ≠ b8 ∧ k ≠ b2 ∧ k ≠ lp) (hlo : y < h.n ∧ b8 < h.n ∧ b2 < h.n ∧ lp < h.n ∧ b2 ≠ y ∧ b2 ≠ b8 ∧ lp ≠ y ∧ lp ≠ b8 ∧ b8 ≠ y)
    (t2 : tr.get 2 = some (.ptr (some (b2, 0)))) (t8 : tr.get 8 = some (.ptr (some (b8, 0))))
    (c2 : ∃ c, h.get b2 = some (.cells c 32) ∧ c.size = 1 ∧ c.get 0 = .ptr (some (lp, 0))) (cl : ∃ c, h.get lp = some (.cells c 47) ∧ c.size = 13 ∧ c.get 0 = .ptr (some (bd, 0)))
    (hw : LR g S w (snapB l p)) (hS : ∀ b, S b → b ≠ y) (hby : Byt (snapB l p)) (hsn : base + p < D.n) (hD : D.n ≤ 4096) (few : ∀ s, (D.pe s).length < 1000000000) :
    SY ⟨Try.prog, true⟩ y [w] g (fun _ => True) (fun b => h.n ≤ b ∨ (M b ∨ b = y ∨ b = b8)) (fun z g' => z = .bool true ∧ CkI h g' M bd y b8 base D l (lvK tr m) (p + 1)) := by
  have hwo := hw.one
  obtain ⟨i1, i2, i3, ⟨c8, i4, i5, i6, i7⟩, Mi, i8, i9⟩ := hI
  have hlt := Heap.lt_of_get i3
  obtain ⟨hy, h8, h2, hlp, e2y, e28, ely, el8, e8y⟩ := hlo
  simp only [lvK] at i3 ⊢
  refine SY.go Go.Proofs.Ytakgjjbmniilhaa.hm i3 trivial (.inr (.inr (.inl rfl))) rfl ir18_a0_eq ir18_b0_eq ?_
  simp -implicitDefEqProofs (disch := (first | omega | (simp -implicitDefEqProofs only [szs, ne_eq] <;> omega) | fail)) only [go_sem, seval, ↓reduceIte, reduceCtorEq, ir18_a0, ↓hwo]
  refine ⟨_, i3, rfl, ?_⟩
  obtain ⟨G1, eG⟩ : ∃ G1, G1 = g.set y (.loop ⟨.busy, none, ⟨95, tr⟩, [56], (rc18 0).1, (rc18 0).2, m⟩) := ⟨_, rfl⟩
  rw [← eG]
  have nG : G1.n = g.n := by rw [eG]; simp
  have kG : ∀ b, b ≠ y → G1.get b = g.get b := fun b h1 => by rw [eG, w_set_ne hlt h1]
  have lG : G1.get y = some (.loop ⟨.busy, none, ⟨95, tr⟩, [56], (rc18 0).1, (rc18 0).2, m⟩) := by rw [eG]; exact w_set_eq hlt rfl _
  clear eG
  obtain ⟨x2, a2, s2, v2⟩ := c2
  obtain ⟨xl, al, sl, vl⟩ := cl
  have nM2 : ¬ M b2 := fun h => (hMl _ h).2.2.2.1 rfl
  have nMl : ¬ M lp := fun h => (hMl _ h).2.2.2.2 rfl
  have A2 := ((kG b2 e2y).trans (i2 b2 h2 nM2 e2y e28)).trans a2
  have Al := ((kG lp ely).trans (i2 lp hlp nMl ely el8)).trans al
  have A8 := (kG b8 e8y).trans i4
  have hMi : ∀ k, Mi k → k ≠ y ∧ k ≠ b8 := fun k hk => (i9 k hk).elim (fun h => ⟨(hMl k h).2.1, (hMl k h).2.2.1⟩) fun h => by constructor <;> omega
  have hx1 : DkX G1 Mi bd (snapW D base l p) := i8.same (by omega) fun k hk => kG k (hMi k hk).1
  simp -implicitDefEqProofs (disch := (first | omega | (simp -implicitDefEqProofs only [szs, ne_eq] <;> omega) | fail)) only [go_sem, seval, ↓reduceIte, reduceCtorEq, ir18_b0, undefV, t2, t8, A2, s2, v2, Al, sl, vl, A8, i5, i7]
  have hbig : SF Try.prog 44 [.int .u64 0] G1 allR noW (fun r g => Own G1.n g r (bigB 0) 5 ∧ G1.n ≤ g.n ∧ ∀ b, b < G1.n → g.get b = G1.get b) := big_ok (n := 0) fun _ => trivial
  refine GCallD.of (SF.foot hbig (fun _ h => h) (fun _ h => h)) ?_
  rintro r1 g1 ⟨o1, n1, k1⟩
  have hw1 : LR g1 S w (snapB l p) := (hw.same (h' := G1) fun b hb _ => kG b (hS b hb)).old k1
  obtain ⟨v2', g2, r2, w2, hap, o2, n2, k2, hw2⟩ := appL o1 n1 hw1 hby (by have := snapB_len l p; rw [bigB_len8]; omega)
  have h1o := o1.lr.one
  have q3 : allB (fun x => True) r2 := allB_of fun b _ => trivial
  have hyn := Heap.lt_of_get lG
  have q4 : allB (fun b => h.n ≤ b ∨ M b ∨ b = y ∨ b = b8) w2 := allB_of fun b hb => .inl (by have := hw2 b hb; omega)
  simp -implicitDefEqProofs (disch := (first | omega | (simp -implicitDefEqProofs only [szs, ne_eq] <;> omega) | fail)) only [go_sem, seval, ↓reduceIte, reduceCtorEq, undefV, t2, t8, appendV_of ap_22, ↓h1o, ↓hwo, hap, q3, q4]
  have hl2 : (bigB 0 ++ snapB l p).length ≤ 128 := by have := snapB_len l p; rw [List.length_append, bigB_len8]; omega
  have hb2 : Byt (bigB 0 ++ snapB l p) := (byt_bigB 0).app hby
  refine GCallD.of (SF.foot (sector_ok (R := allR) (W := noW) o2.lr (fun _ => trivial) hl2 hb2) (fun _ h => h) (fun _ h => h)) ?_
  rintro r3 g3 ⟨o3, n3, k3⟩
  have kg3 : ∀ b, b < G1.n → g3.get b = G1.get b := fun b hb => by rw [k3 b (by omega), k2 b hb, k1 b hb]
  have hx3 : DkX g3 Mi bd (snapW D base l p) := hx1.old (by omega) kg3
  simp -implicitDefEqProofs (disch := (first | omega | (simp -implicitDefEqProofs only [szs, ne_eq] <;> omega) | fail)) only [go_sem, seval, ↓reduceIte, reduceCtorEq, undefV, t2, t8]
  refine GCallD.of (R' := allR) (W' := Mi) ((write_dk (R := allR) (W := Mi) hx3 (fun _ => trivial) (fun _ h => h) (s := base + p) (by rw [snapW_n]; exact hsn) o3.lr (padB_len hl2) (byt_padB hb2) (by rw [snapW_pe D base l p _ (Nat.le_refl _)]; exact few _)).foot (fun _ h => h) (fun _ h => h)) ?_
  rintro r4 g4 ⟨rfl, ⟨n4, k4⟩, M4, hx4, hM4⟩
  have A8' : g4.get b8 = some (.cells c8 3) := by rw [k4 b8 (by omega) (fun h => (hMi b8 h).2 rfl), kg3 b8 (by omega)]; exact A8
  have L4 : g4.get y = some (.loop ⟨.busy, none, ⟨95, tr⟩, [56], (rc18 0).1, (rc18 0).2, m⟩) := by rw [k4 y (by omega) (fun h => (hMi y h).1 rfl), kg3 y (by omega)]; exact lG
  have l8 := Heap.lt_of_get A8'
  have e3 : ((base + p : Nat) : Int) + 1 = ((base + (p + 1) : Nat) : Int) := by omega
  have hp48 : base + p < 4096 := by omega
  simp -implicitDefEqProofs (disch := (first | omega | (simp -implicitDefEqProofs only [szs, ne_eq] <;> omega) | fail)) only [go_sem, seval, ↓reduceIte, reduceCtorEq, undefV, t2, t8, A8', i5, i6, i7, e3]
  refine ⟨?_, ⟨fun b _ h => h.elim, fun b _ h => .inl (by have := hw2 b h; omega), fun b _ h => h.elim, fun b _ h => (i9 b h).elim (fun h => .inr (.inl h)) .inl⟩, _, L4, rfl, ?_⟩
  · repeat' apply And.intro
    all_goals
      intro b hb hc
      simp [noW, allR] at hb hc
      try first
        | omega
        | (have := hw2 b hb.2; omega)
  have l4y := Heap.lt_of_get L4
  have kz : ∀ (x : Blk) (o : O) b, b ≠ y → b ≠ b8 → ((g4.set b8 (.cells x 3)).set y o).get b = g4.get b := fun x o b h1 h2 => by
    rw [w_set_ne (by simp only [Heap.n_set]; exact l4y) h1, w_set_ne l8 h2]
  refine ⟨by simp only [Heap.n_set]; omega, fun b h1 h2 h3 h4 => ?_, w_set_eq (by simp only [Heap.n_set]; exact l4y) rfl _, ⟨c8.set 0 (.int .i64 ((base + (p + 1) : Nat) : Int)), ?_, by simp only [Blk.size_set]; exact i5, by simp only [Blk.ro_set]; exact i6, by rw [Blk.get_set, if_pos rfl]⟩, M4, ?_, fun k hk => ?_⟩
  · have hnM : ¬ Mi b := fun h => (i9 b h).elim h2 fun h => by omega
    rw [kz _ _ b h3 h4, k4 b (by omega) hnM, kg3 b (by omega), kG b h3, i2 b h1 h2 h3 h4]
  · rw [w_set_ne (by simp only [Heap.n_set]; exact l4y) e8y]; exact w_set_eq l8 rfl _
  · refine hx4.same (by simp only [Heap.n_set]; exact Nat.le_refl _) fun k hk => kz _ _ k ?_ ?_
    · rcases hM4 k hk with h1 | h1
      · exact (hMi k h1).1
      · omega
    · rcases hM4 k hk with h1 | h1
      · exact (hMi k h1).2
      · omega
  · rcases hM4 k hk with h1 | h1
    · exact i9 k h1
    · exact .inr (by omega)
end Go.Proofs.Ytakgjjbmniilhaa
set_option maxRecDepth 100000
set_option linter.unusedVariables false
set_option linter.unusedSimpArgs false
namespace Go.Proofs.Ytakgjjbmniilhaa
open Go Go.Vm
attribute [-go_sem] sz_101
variable {h g : Heap} {R W M N : Set'} {bd lp fr ct : Nat} {D : DS} {G : LgS}
theorem snapB_byt {l : List V} (h : Byt l) (p : Nat) : Byt (snapB l p) := (h.drop _).take _
set_option maxHeartbeats 8000000 in
theorem ck_rg {g : Heap} {Q : Ex → Fr → Heap → Prop} {t : List It} {mks : List Nat} {b1 bn b2 b8 base : Nat} {v : V} {l : List V} {S : Set'} {tr : Tr V} (hR : ∀ b, R b) (hW : ∀ k, M k ∨ k = b8 ∨ g.n ≤ k → W k)
    (hx : DkX g M bd D) (hM : ∀ k, M k → k ≠ b8 ∧ k ≠ b2 ∧ k ≠ lp ∧ k ≠ b1 ∧ k ≠ bn)
    (t2 : tr.get 2 = some (.ptr (some (b2, 0)))) (t8 : tr.get 8 = some (.ptr (some (b8, 0)))) (t55 : tr.get 55 = some (.func 73 [] [.ptr (some (b1, 0)), .ptr (some (bn, 0))]))
    (c2 : ∃ c, g.get b2 = some (.cells c 32) ∧ c.size = 1 ∧ c.get 0 = .ptr (some (lp, 0))) (cl : ∃ c, g.get lp = some (.cells c 47) ∧ c.size = 13 ∧ c.get 0 = .ptr (some (bd, 0)))
    (c8 : ∃ c, g.get b8 = some (.cells c 3) ∧ c.size = 1 ∧ c.ro = false ∧ c.get 0 = .int .i64 (base : Int)) (c1 : ∃ c, g.get b1 = some (.cells c 22) ∧ c.size = 1 ∧ c.get 0 = v) (cn : ∃ c, g.get bn = some (.cells c 3) ∧ c.size = 1 ∧ c.get 0 = .int .i64 120)
    (hne : b2 ≠ b8 ∧ lp ≠ b8 ∧ b1 ≠ b8 ∧ bn ≠ b8)
    (hv : LR g S v l) (hS : ∀ k, S k → ¬ M k ∧ k ≠ b8 ∧ k < g.n) (hc : capOk v) (hby : Byt l) (hll : l.length ≤ 1000000) (hsn : base + secsN l.length ≤ D.n) (hD : D.n ≤ 4096) (few : ∀ s, (D.pe s).length < 1000000000)
    (hk : ∀ g3 m M3, DkX g3 M3 bd (snapW D base l (secsN l.length)) → (∀ k, M3 k → M k ∨ g.n ≤ k) → g.n ≤ m → ¬ M3 m → g3.get m = some (.deferred true) → g.n ≤ g3.n → (∀ b, b < g.n → ¬ M b → b ≠ b8 → g3.get b = g.get b) → GO ⟨Try.prog, true⟩ R W none Q t ⟨⟨95, tr⟩, m :: mks⟩ g3) :
    GRange ⟨Try.prog, true⟩ R W none Q (.tmp 55) #[56] (rc18 0).1 (rc18 0).2 (.blk 0 :: t) ⟨⟨95, tr⟩, mks⟩ g := by
  refine GRange.outer (k := 73) (xs := []) (ys := [.ptr (some (b1, 0)), .ptr (some (bn, 0))]) (by simp -implicitDefEqProofs (disch := (first | omega | (simp -implicitDefEqProofs only [szs, ne_eq] <;> omega) | fail)) only [go_sem, seval, ↓reduceIte, reduceCtorEq, t55]) (by kernel_rfl) ?_
  obtain ⟨hA, eA⟩ : ∃ hA, hA = (g.push (.deferred true)).push (.loop (lvK tr g.n)) := ⟨_, rfl⟩
  rw [show (([] ++ [V.yield (g.n + 1)]) ++ [.ptr (some (b1, 0)), .ptr (some (bn, 0))] : List V) = [V.yield (g.n + 1), .ptr (some (b1, 0)), .ptr (some (bn, 0))] from rfl, show (#[56] : Array Tmp).toList = [56] from rfl, show (⟨.ready, none, ⟨95, tr⟩, [56], (rc18 0).1, (rc18 0).2, g.n⟩ : Loopv) = lvK tr g.n from rfl, ← eA]
  have nA : hA.n = g.n + 2 := by rw [eA]; simp
  have kA : ∀ b, b < g.n → hA.get b = g.get b := fun b hb => by rw [eA, w_push_ne (by simp; omega), w_push_ne (by omega)]
  have mA : hA.get g.n = some (.deferred true) := by rw [eA, w_push_ne (by simp)]; exact w_push_eq rfl _
  have lA : hA.get (g.n + 1) = some (.loop (lvK tr g.n)) := by rw [eA]; exact w_push_eq (by simp) _
  clear eA
  obtain ⟨x2, p2, q2⟩ := c2
  obtain ⟨xl, pl, ql⟩ := cl
  obtain ⟨x8, p8, q8⟩ := c8
  obtain ⟨x1, p1, q1⟩ := c1
  obtain ⟨xn, pn, qn⟩ := cn
  have l2 := Heap.lt_of_get p2
  have ll := Heap.lt_of_get pl
  have l8 := Heap.lt_of_get p8
  have l1 := Heap.lt_of_get p1
  have ln := Heap.lt_of_get pn
  have hMlt := hx.lt
  obtain ⟨n28, nl8, n18, nn8⟩ := hne
  have hsN : secsN l.length = (l.length + 119) / 120 := rfl
  have I0 : CkI hA hA M bd (g.n + 1) b8 base D l (lvK tr g.n) 0 := ⟨Nat.le_refl _, fun _ _ _ _ _ => rfl, lA, ⟨x8, (kA b8 l8).trans p8, q8⟩, M, hx.old (by omega) kA, fun k h => .inl h⟩
  refine SF.mono (SF.foot (seq73 (h := hA) (y := g.n + 1) (W := fun b => M b ∨ b = g.n + 1 ∨ b = b8) (S := S) (v := v) (l := l) (fun p g' => CkI hA g' M bd (g.n + 1) b8 base D l (lvK tr g.n) p) ⟨x1, (kA b1 l1).trans p1, q1⟩ ⟨xn, (kA bn ln).trans pn, qn⟩ (hv.old kA) hc hll I0 (fun p g' hI => ⟨hI.n, fun b hb hlt => ?_⟩) (fun b hb => ?_) fun p g' w hp hI hw => ?_) (fun b _ => hR b) fun b hb => ?_) ?_
  · rcases hb with hb | rfl | rfl
    · obtain ⟨s1, s2, s3⟩ := hS b hb
      exact hI.k b hlt s1 (by omega) s2
    · exact hI.k _ hlt (fun h => (hM _ h).2.2.2.1 rfl) (by omega) n18
    · exact hI.k _ hlt (fun h => (hM _ h).2.2.2.2 rfl) (by omega) nn8
  · rcases hb with hb | rfl | rfl
    · have := hMlt b hb; omega
    · omega
    · omega
  · refine SY.foot (rnd18 (h := hA) (M := M) (D := D) (lp := lp) (bd := bd) (y := g.n + 1) (m := g.n) (b2 := b2) (b8 := b8) (base := base) (p := p) (tr := tr) (l := l) (S := S) hI (fun k hk => ⟨by have := hMlt k hk; omega, by have := hMlt k hk; omega, (hM k hk).1, (hM k hk).2.1, (hM k hk).2.2.1⟩) ⟨by omega, by omega, by omega, by omega, by omega, n28, by omega, nl8, by omega⟩ t2 t8 ⟨x2, (kA b2 l2).trans p2, q2⟩ ⟨xl, (kA lp ll).trans pl, ql⟩ hw (fun b hb => by have := (hS b hb).2.2; omega) (snapB_byt hby p) (by omega) hD few) (fun _ h => h) (fun _ h => h)
  · rcases hb with hb | rfl | rfl
    · exact hW b (.inl hb)
    · exact hW _ (by omega)
    · exact hW _ (by omega)
  · rintro v2 g2 hI
    have hlt := Heap.lt_of_get hI.y
    have hn2 := hI.n
    obtain ⟨Mi, x1', x2'⟩ := hI.x
    have hMy : ∀ k, Mi k → k ≠ g.n + 1 ∧ k ≠ g.n := fun k hk => (x2' k hk).elim (fun h => by have := hMlt k h; omega) fun h => by omega
    refine ⟨_, hI.y, by simp [lvK], hW _ (by omega), ?_⟩
    simp only [lvK]
    simp -implicitDefEqProofs (disch := (first | omega | (simp -implicitDefEqProofs only [szs, ne_eq] <;> omega) | fail)) only [go_sem, seval, ↓reduceIte, reduceCtorEq]
    refine hk _ _ Mi (x1'.same (by rw [Heap.n_set]; exact Nat.le_refl _) fun k hk => w_set_ne hlt (hMy k hk).1 _) (fun k hk => (x2' k hk).imp id fun h => by omega) (Nat.le_refl _) (fun h => (hMy _ h).2 rfl) ?_ (by rw [Heap.n_set]; omega) fun b h1 h2 h3 => ?_
    · rw [w_set_ne hlt (by omega), hI.k g.n (by omega) (fun h => by have := hMlt _ h; omega) (by omega) (by omega), mA]
    · rw [w_set_ne hlt (by omega), hI.k b (by omega) h2 (by omega) h3, kA b h1]
end Go.Proofs.Ytakgjjbmniilhaa
