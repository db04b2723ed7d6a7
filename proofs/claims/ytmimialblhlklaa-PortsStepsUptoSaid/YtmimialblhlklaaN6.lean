/- PortsApart: what concerns one account alone. -/
import Derived.Test.YtmimialblhlklaaG4
set_option linter.unusedVariables false
set_option maxRecDepth 100000
namespace Go.Proofs.Ytmimialblhlklaa
open Go Go.Vm
variable {qs : List Nat} {S S' : AT}
end Go.Proofs.Ytmimialblhlklaa
namespace Go.Proofs.Ytmimialblhlklaa
open Go Go.Vm
variable {h : Heap} {R W : Set'}
def StepIs (h : Heap) (vf vp : V) (L : List Te) (l : List V) : Prop := TestsV h (fun k => k < h.n) vf L ∧ LR h (fun k => k < h.n) vp l ∧ Byt l
def StepsV (h : Heap) (v : V) (m : Nat) : Prop := m ≤ 9223372036854775807 ∧ ((m = 0 ∧ (v = .slice none 0 0 true ∨ ∃ a, v = .esl a)) ∨ ∃ b o cap c ce, v = .slice (some (b, o)) m cap true ∧ h.get b = some (.cells c ce) ∧ o + m * 5 ≤ c.size ∧ ∀ i, i < m → ∃ kd a n vf vp L l, c.get (o + i * 5) = .int .i64 kd ∧ c.get (o + i * 5 + 1) = .int .i64 a ∧ c.get (o + i * 5 + 2) = .int .i64 n ∧ c.get (o + i * 5 + 3) = vf ∧ c.get (o + i * 5 + 4) = vp ∧ StepIs h vf vp L l)
theorem StepsV.len {v : V} {m : Nat} (hv : StepsV h v m) (g : Heap) : lenV Try.prog 46 v g = some (m, []) := by
 rcases hv.2 with ⟨rfl, rfl | ⟨a, rfl⟩⟩ | ⟨b, o, cap, c, ce, rfl, _⟩ <;> simp [Vm.lenV, Try.underlying46]
theorem StepIs.old {h' : Heap} {vf vp : V} {L : List Te} {l : List V} (hs : StepIs h vf vp L l) (hn : h.n ≤ h'.n) (hk : ∀ b, b < h.n → h'.get b = h.get b) : StepIs h' vf vp L l :=
 ⟨LRs.mono (LRs.old hs.1 hk) fun b _ (hb : b < h.n) => Nat.lt_of_lt_of_le hb hn, (hs.2.1.old hk).mono fun b _ (hb : b < h.n) => Nat.lt_of_lt_of_le hb hn, hs.2.2⟩
theorem StepsV.old {h' : Heap} {v : V} {m : Nat} (hv : StepsV h v m) (hn : h.n ≤ h'.n) (hk : ∀ b, b < h.n → h'.get b = h.get b) : StepsV h' v m := by
 refine ⟨hv.1, hv.2.imp id ?_⟩
 rintro ⟨b, o, cap, c, ce, e, hb, hs, hc⟩
 refine ⟨b, o, cap, c, ce, e, (hk _ (Heap.lt_of_get hb)).trans hb, hs, fun i hi => ?_⟩
 obtain ⟨kd, a, n, vf, vp, L, l, e0, e1, e2, e3, e4, e5⟩ := hc i hi
 exact ⟨kd, a, n, vf, vp, L, l, e0, e1, e2, e3, e4, e5.old hn hk⟩
set_option maxHeartbeats 4000000 in
theorem much_ok {v : V} {m : Nat} (hv : StepsV h v m) (hR : ∀ b, R b) : SF Try.prog 15 [v] h R W fun r g => (∃ b, r = .bool b) ∧ g = h := by
 have hl := hv.len
 have hm9 := hv.1
 refine SF.go hm Try.func15 ir15_eq ?_
 simp -implicitDefEqProofs (disch := (first | omega | fail)) only [go_sem, seval, ↓reduceIte, reduceCtorEq, ir15]
 refine GLoop.inv hm (fun k f g => f.mks = [] ∧ f.tm.n = 34 ∧ f.tm.get 0 = some v ∧ g = h ∧ ∃ (i : Nat) (n : Int), i + k = 100 ∧ f.tm.get 4 = some (.int .i64 (i : Int)) ∧ f.tm.get 3 = some (.int .i64 n)) 100 ?_ ?_
 ·exact ⟨rfl, rfl, by simp -implicitDefEqProofs (disch := (first | omega | fail)) only [go_sem, seval, ↓reduceIte], rfl, 0, 0, by omega, by simp -implicitDefEqProofs (disch := (first | omega | fail)) only [go_sem, Nat.reduceSub, Nat.reduceMod, Nat.reduceDiv, ↓reduceIte, reduceCtorEq]; rfl, by simp -implicitDefEqProofs (disch := (first | omega | fail)) only [go_sem, seval, ↓reduceIte, reduceCtorEq]⟩
 rintro k ⟨⟨n', tr⟩, mks⟩ g ⟨hmk, hn', t0, rfl, i, n, hik, t4, t3⟩
 simp only [Tm.get_mk] at hmk hn' t0 t4 t3
 subst hmk hn'
 have hi0 : (0 : Int) ≤ (i : Int) := by omega
 by_cases hi : i < m
 ·have hz : (i : Int) < (m : Int) := by omega
  by_cases h100 : i < 100
  ·have hz2 : (i : Int) < 100 := by omega
   rcases hv.2 with ⟨h0, _⟩ | ⟨b, o, cap, c, ce, rfl, hb, hs, hc⟩
   ·omega
   obtain ⟨kd, a, nn, vf, vp, L, l, c0, c1, c2, c3, c4, hf, hp, _⟩ := hc i hi
   have hRb := hR b
   have hfo := LRs.one hf
   have hpo := hp.one
   have hfl := LRs.lenV Try.underlying22 hf
   have hpl := hp.lenV Try.underlying36
   have hsz : o + i * 5 + 5 ≤ c.size := by omega
   simp -implicitDefEqProofs (disch := (first | omega | fail)) only [go_sem, seval, ↓reduceIte, reduceCtorEq, ir15_l0, t0, t3, t4, ↓hl, hz, hz2, hi0, hb, hRb, c3, c4, ↓hfl, ↓hpl]
   exact ⟨k - 1, by omega, i + 1, _, by omega, by simp, rfl⟩
  ·have hz2 : ¬ (i : Int) < 100 := by omega
   simp -implicitDefEqProofs (disch := (first | omega | fail)) only [go_sem, seval, ↓reduceIte, reduceCtorEq, ir15_l0, t0, t3, t4, ↓hl, hz, hz2]
   exact ⟨_, rfl⟩
 ·have hz : ¬ (i : Int) < (m : Int) := by omega
  simp -implicitDefEqProofs (disch := (first | omega | fail)) only [go_sem, seval, ↓reduceIte, reduceCtorEq, ir15_l0, undefV, t0, t3, t4, ↓hl, hz]
  exact ⟨_, rfl⟩
end Go.Proofs.Ytmimialblhlklaa
namespace Go.Proofs.Ytmimialblhlklaa
open Go Go.Vm
variable {R W : Set'}
theorem w_of_size (l : List V) : (Blk.of l).size = l.length := rfl
def openV (h : Heap) (l : List V) : V × Heap := match l with
 | [] => (.slice none 0 0 true, h)
 | _ => (.slice (some (h.n, 0)) l.length l.length false, h.push (.cells (Blk.of l) 3))
theorem open_fn {h : Heap} {I : Set'} {pp mp : Nat} {qs : List Nat} {T : PT} (hp : PortsAt h I pp mp qs T) (a : Int) :
  FnOk Try.prog 34 [.ptr (some (pp, 0)), .int .i64 a] h (openV h ((openL T a).map (.int .i64))).1 (openV h ((openL T a).map (.int .i64))).2 (fun b => b = pp ∨ b = mp) (fun _ => False) := by
 have hlt := hp.lt
 generalize hL : (openL T a).map (V.int .i64) = L
 have hdem : ∀ g : Heap, (∀ b, b < h.n → g.get b = h.get b) → FnD Try.prog 34 [.ptr (some (pp, 0)), .int .i64 a] g (fun b => b = pp ∨ b = mp) (fun _ => False) fun v g' => (∀ b, b < g.n → g'.get b = g.get b) ∧ g.n ≤ g'.n ∧ Own g.n g' v L 3 ∧ Opn v := fun g hgo => by
  have := open_dem (R := fun b => b = pp ∨ b = mp) (W := fun _ => False) (hp.old hgo) (fun _ h => h) a
  rw [hL] at this
  exact this
 cases L with
 | nil =>
  refine FnOk.of_dem (Q := fun g v g' => Own g.n g' v [] 3 ∧ Opn v) (Nat.le_refl _) (fun _ _ => rfl) (fun b hb => hb.elim (fun e => e ▸ hlt.1) fun e => e ▸ hlt.2) (fun g hg hgo => FnD.mono (hdem g hgo) fun v g' q _ => ⟨q.2.2.1, q.2.2.2⟩) fun g v h' hg ⟨ho, hop⟩ => ?_
  have hv : v = .slice none 0 0 true := by
   rcases hop with h | ⟨b, l, c, rfl⟩
   ·exact h
   ·rcases ho with ⟨_, h | ⟨_, _, h, _⟩⟩ | ⟨_, _, _, h, _⟩
    ·cases h
    ·cases h
    ·exact absurd rfl h
  subst hv
  exact ⟨id, fun _ _ => rfl, fun b h1 h2 => by simp [openV] at h2; omega, fun b c h1 h2 => by simp [openV] at h2; omega, trivial, rfl, fun b o h1 h2 => by simp [openV] at h2; omega⟩
 | cons x xs =>
  have hints : ∀ i, i < (x :: xs).length → ∃ z : Int, (x :: xs).getD i undefV = .int .i64 z := fun i hi => by
   have hm' : (x :: xs).getD i undefV ∈ (openL T a).map (V.int .i64) := by
    rw [hL, List.getD_eq_getElem?_getD, List.getElem?_eq_getElem hi, Option.getD_some]
    exact List.getElem_mem hi
   obtain ⟨z, _, e⟩ := List.mem_map.1 hm'
   exact ⟨z, e.symm⟩
  have hsv : openV h (x :: xs) = (.slice (some (h.n, 0)) (x :: xs).length (x :: xs).length false, h.push (.cells (Blk.of (x :: xs)) 3)) := rfl
  rw [hsv]
  generalize hes : x :: xs = L at *
  have hne : L ≠ [] := by rw [← hes]; simp
  refine FnOk.of_dem (Q := fun g v g' => Own g.n g' v L 3 ∧ Opn v) (by simp) (fun b hb => w_push_ne (by omega) _) (fun b hb => hb.elim (fun e => e ▸ hlt.1) fun e => e ▸ hlt.2) (fun g hg hgo => FnD.mono (hdem g hgo) fun v g' q _ => ⟨q.2.2.1, q.2.2.2⟩) fun g v h' hg ⟨ho, hop⟩ => ?_
  rcases ho with ⟨h0, _⟩ | ⟨bj, ex, cj, h0, rfl, hbj, hget, hsz, hro, hgets⟩
  ·exact absurd h0 hne
  have hex : ex = false := by
   rcases hop with h | ⟨b, l, c, h⟩
   ·cases h
   ·cases h; rfl
  subst hex
  have hltj := Heap.lt_of_get hget
  simp only [Heap.n_push] at hg
  refine ⟨fun b => if b < h.n then b else bj, fun b hb => if_pos hb, fun b h1 h2 => ?_, fun b c h1 h2 h3 h4 _ => ?_, by simp [V.names], by simp [V.rn], fun b o h1 h2 ho hd => ?_⟩
  ·show g.n ≤ if b < h.n then b else bj
   rw [if_neg (by omega)]; exact hbj
  ·simp at h2 h4; omega
  ·simp at h2
   have hb : b = h.n := by omega
   subst hb
   rw [w_push_eq rfl] at ho; cases ho
   have e0 : (fun b => if b < h.n then b else bj) h.n = bj := if_neg (Nat.lt_irrefl _)
   rw [e0]
   refine ⟨hltj, _, hget, rfl, rfl, hro.symm, by rw [w_of_size, hsz], fun i hi => ?_⟩
   have hi' : i < L.length := by simpa [w_of_size] using hi
   obtain ⟨z, hz⟩ := hints i hi'
   have hg2 := Blk.gets_get cj L.length 0 i hi'
   rw [hgets, Nat.zero_add, List.getElem?_eq_getElem hi'] at hg2
   have hz2 : L[i] = .int .i64 z := by rw [← hz, List.getD_eq_getElem?_getD, List.getElem?_eq_getElem hi']; rfl
   rw [Blk.get_of _ _ hi', hz, ← Option.some.inj hg2, hz2]
   exact ⟨trivial, rfl⟩
theorem open_d {g : Heap} {M : Set'} {pp : Nat} {qs : List Nat} {S : AT} (hx : PX g M pp qs S) (hR : ∀ b, R b) (a : Int) : SF Try.prog 34 [.ptr (some (pp, 0)), .int .i64 a] g R W fun r g' => g.n ≤ g'.n ∧ (∀ k, k < g.n → g'.get k = g.get k) ∧ Own g.n g' r ((openA S a).map fun n : Nat => V.int .i64 (n : Int)) 3 := by
 obtain ⟨⟨I, mp, T, hp, rfl, hm⟩, hF, hl⟩ := hx
 refine SF.foot (SF.det.2 ⟨_, _, ?_, open_fn hp a⟩) (fun b _ => hR b) (fun _ h => h.elim)
 have e : ((openA (absT T) a).map fun n : Nat => V.int .i64 (n : Int)) = (openL T a).map (.int .i64) := by
  rw [openA_abs]; unfold openL; rw [List.map_map]; rfl
 rw [e]
 cases hL : (openL T a).map (V.int .i64) with
 | nil => exact ⟨Nat.le_refl _, fun _ _ => rfl, Own.nil _ _ _⟩
 | cons x xs =>
  refine ⟨by simp [openV], fun k hk => w_push_ne (by omega) _, .inr ⟨g.n, false, _, by simp, rfl, Nat.le_refl _, w_push_eq rfl _, rfl, rfl, ?_⟩⟩
  exact gets_all _ rfl
end Go.Proofs.Ytmimialblhlklaa
