/- Made: how many capabilities an account made, whatever order the map is gone through. -/
import Derived.Test.YtdfihilgbeogbaaGreatTy
import Derived.Test.YtdfihilgbeogbaaGreatIr
import Derived.Test.YtdfihilgbeogbaaGreatV4
set_option linter.unusedVariables false
set_option linter.unusedSimpArgs false
set_option linter.unusedSimpArgs false
set_option maxRecDepth 100000
set_option linter.unusedVariables false
set_option linter.unusedSimpArgs false
namespace Go.Proofs.YtdfihilgbeogbaaGreat
open Go Go.Vm

def isCap : V → Bool
  | .agg [.int .i64 _, .int .i64 _, .int .i64 _, .int .i64 _, .int .i64 _, .int .i64 _, .int .i64 _] => true
  | _ => false
def makerOf : V → Int
  | .agg [_, _, _, .int _ m, _, _, _] => m
  | _ => 0
theorem isCap_eq {v : V} (h : isCap v = true) : ∃ i p a m k o r : Int, v = .agg [.int .i64 i, .int .i64 p, .int .i64 a, .int .i64 m, .int .i64 k, .int .i64 o, .int .i64 r] := by
  unfold isCap at h
  split at h
  · exact ⟨_, _, _, _, _, _, _, rfl⟩
  · cases h
def madeBy (a : Int) (l : Ents) : Nat := (l.filter fun e => makerOf e.2.1 == a).length
theorem madeBy_le (a : Int) (l : Ents) : madeBy a l ≤ l.length := List.length_filter_le _ _
theorem madeBy_perm {a : Int} {l m : Ents} (h : l.Perm m) : madeBy a l = madeBy a m := (h.filter _).length_eq
theorem madeBy_snoc (a : Int) (l : Ents) (e : V × V × Nat) : madeBy a (l ++ [e]) = madeBy a l + if makerOf e.2.1 == a then 1 else 0 := by
  unfold madeBy
  rw [List.filter_append, List.length_append]
  congr 1
  by_cases h : makerOf e.2.1 == a
  · simp [List.filter_cons, h]
  · simp [List.filter_cons, h]

structure TableAt (h : Heap) (tb r : Nat) (es : Ents) (ck : Nat) : Prop where
  t : ∃ c, h.get tb = some (.cells c 202) ∧ c.size = 2 ∧ c.get 0 = .map (some r)
  m : h.get r = some (.map es ck)
  ok : EntsOk es ck
  caps : ∀ e ∈ es, isCap e.2.1 = true
  few : es.length ≤ 1000000

theorem there_dem {h : Heap} {R W : Set'} {tb r : Nat} {es : Ents} {ck : Nat} (ht : TableAt h tb r es ck) (hR : R tb) (M : MP) (hM : M.P = Tryz.prog) : SF M 105 [.ptr (some (tb, 0))] h R W fun v h' => v = .bool true ∧ h' = h := by
  obtain ⟨P, d⟩ := M
  obtain rfl : P = Tryz.prog := hM
  refine SF.any (M := ⟨Tryz.prog, d⟩) ?_
  obtain ⟨c, h1, h2, h3⟩ := ht.t
  refine SF.go hm Tryz.func105 ir105_eq ?_
  simp -implicitDefEqProofs (disch := (first | omega | (simp -implicitDefEqProofs only [szs, ne_eq] <;> omega) | fail)) only [go_sem, seval, ↓reduceIte, reduceCtorEq, ir105, h1, h3, hR]
theorem TableAt.same {h h' : Heap} {tb r : Nat} {es : Ents} {ck : Nat} (ht : TableAt h tb r es ck) (hg : ∀ b, b < h.n → h'.get b = h.get b) : TableAt h' tb r es ck := by
  obtain ⟨c, h1, h2, h3⟩ := ht.t
  exact ⟨⟨c, by rw [hg _ (Heap.lt_of_get h1)]; exact h1, h2, h3⟩, by rw [hg _ (Heap.lt_of_get ht.m)]; exact ht.m, ht.ok, ht.caps, ht.few⟩
theorem made_dem {h : Heap} {tb r : Nat} {es : Ents} {ck : Nat} (ht : TableAt h tb r es ck) (a : Int) :
    SF ⟨Tryz.prog, true⟩ 173 [.ptr (some (tb, 0)), .int .i64 a] h (fun b => b = tb ∨ b = r) (fun _ => False) fun v _ => v = .int .i64 (madeBy a es) := by
  obtain ⟨c, h1, h2, h3⟩ := ht.t
  have hlt1 := Heap.lt_of_get h1
  have hlt2 := Heap.lt_of_get ht.m
  have hm2 := ht.m
  have hfew := ht.few
  refine SF.go hm Tryz.func173 ir173_eq ?_
  simp -implicitDefEqProofs (disch := (first | omega | (simp -implicitDefEqProofs only [szs, ne_eq] <;> omega) | fail)) only [go_sem, seval, ↓reduceIte, reduceCtorEq, ir173]
  refine GCall.of (there_dem ht (.inr (.inl rfl)) _ rfl) ?_
  rintro v h' ⟨rfl, rfl⟩
  simp -implicitDefEqProofs (disch := (first | omega | (simp -implicitDefEqProofs only [szs, ne_eq] <;> omega) | fail)) only [go_sem, seval, ↓reduceIte, reduceCtorEq, h1, h3, rangeV, hm2]
  generalize hg0 : h'.push (.iter (some r) ck [] ck) = g0
  have hn0 : g0.n = h'.n + 1 := by rw [← hg0]; rfl
  refine GLoop.inv hm (fun k f g => f.mks = [] ∧ f.tm.n = 27 ∧ f.tm.get 1 = some (.int .i64 a) ∧ f.tm.get 15 = some (.ptr (some (h'.n, 0))) ∧ h'.n + 1 ≤ g.n ∧ (∀ b, b < h'.n → g.get b = h'.get b) ∧
    ∃ l seen, Seen es seen l ∧ l.length + k = es.length ∧ g.get h'.n = some (.iter (some r) ck seen ck) ∧ f.tm.get 5 = some (.int .i64 (madeBy a l))) es.length ?_ ?_
  · refine ⟨rfl, rfl, rfl, rfl, by omega, fun b hb => ?_, [], [], Seen.nil es, by simp, ?_, rfl⟩
    · rw [← hg0, w_push_ne (by omega)]
    · rw [← hg0, w_push_eq rfl]
  rintro k ⟨⟨m, tr⟩, mks⟩ g ⟨hmk, hn, t1, t15, hgn, hgo, l, seen, hs, hlk, hit, t5⟩
  simp only [Tm.get_mk] at hmk hn t1 t15 t5
  subst hmk hn
  have hgr : g.get r = some (.map es ck) := by rw [hgo r hlt2]; exact hm2
  simp -implicitDefEqProofs (disch := (first | omega | (simp -implicitDefEqProofs only [szs, ne_eq] <;> omega) | fail)) only [go_sem, seval, ↓reduceIte, reduceCtorEq, ir173_l0, t15, SNext, hit, hgr]
  refine ⟨?_, ?_, ?_⟩
  · cases es with
    | nil => exact .inr (.inl rfl)
    | cons e es => exact .inr (.inr ⟨e, by simp, ht.ok.lt e (by simp)⟩)
  · intro hall
    have hp := hs.last ht.ok fun e he => hall e he (ht.ok.lt e he)
    simp -implicitDefEqProofs (disch := (first | omega | (simp -implicitDefEqProofs only [szs, ne_eq] <;> omega) | fail)) only [go_sem, seval, ↓reduceIte, reduceCtorEq, t5]
    rw [madeBy_perm hp]
  · intro e he hns
    have hs' := hs.step he hns
    have hle := hs'.length
    have hE := entry_at (g := g.set h'.n (.iter (some r) ck (seen ++ [e.2.2]) ck)) (b := h'.n) (w_set_eq (by omega) rfl _) (by rw [w_set_ne (by omega) (by omega)]; exact hgr) ht.ok he
    obtain ⟨x0, x1, x2, x3, x4, x5, x6, hv⟩ := isCap_eq (ht.caps e he)
    have hmk : makerOf e.2.1 = x3 := by rw [hv]; rfl
    have hcnt := madeBy_snoc a l e
    rw [hmk] at hcnt
    have hml := madeBy_le a l
    rw [List.length_append, List.length_singleton] at hle
    have hkeep : ∀ (o p q : O) (b : Nat), b < h'.n → (((g.set h'.n o).push p).set g.n q).get b = h'.get b := fun o p q b hb => by
      rw [w_set_ne (by simp) (by omega), w_push_ne (by simp; omega), w_set_ne (by omega) (by omega)]; exact hgo b hb
    by_cases hxa : x3 = a
    · subst hxa
      simp -implicitDefEqProofs (disch := (first | omega | (simp -implicitDefEqProofs only [szs, ne_eq] <;> omega) | fail)) only [go_sem, seval, ↓reduceIte, reduceCtorEq, hE, hv, t1, t5]
      refine ⟨by omega, .inl (by omega), k - 1, by omega, by omega, hkeep _ _ _, l ++ [e], _, hs', by simp; omega, rfl, ?_⟩
      rw [hcnt]; simp
    · simp -implicitDefEqProofs (disch := (first | omega | (simp -implicitDefEqProofs only [szs, ne_eq] <;> omega) | fail)) only [go_sem, seval, ↓reduceIte, reduceCtorEq, hE, hv, t1, t5]
      refine ⟨by omega, .inl (by omega), k - 1, by omega, by omega, hkeep _ _ _, l ++ [e], _, hs', by simp; omega, rfl, ?_⟩
      rw [hcnt]; simp [hxa]
theorem made_ok {h : Heap} {tb r : Nat} {es : Ents} {ck : Nat} (ht : TableAt h tb r es ck) (a : Int) :
    SF Tryz.prog 173 [.ptr (some (tb, 0)), .int .i64 a] h (fun b => b = tb ∨ b = r) (fun _ => False) fun v h' => v = .int .i64 (madeBy a es) ∧ h' = h := by
  obtain ⟨c, h1, h2, h3⟩ := ht.t
  have hlt1 := Heap.lt_of_get h1
  have hlt2 := Heap.lt_of_get ht.m
  refine SF.of_dem_val (fun b hb => by rcases hb with rfl | rfl <;> assumption) trivial fun g hg hgo => made_dem (ht.same hgo) a
end Go.Proofs.YtdfihilgbeogbaaGreat
