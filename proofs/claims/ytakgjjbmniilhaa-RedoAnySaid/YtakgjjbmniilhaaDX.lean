/- Words of bits: what shifts and masks answer. -/
import Derived.Test.YtakgjjbmniilhaaV4
import Derived.IntWalk
import Derived.Test.YtakgjjbmniilhaaTy
import Derived.Test.YtakgjjbmniilhaaIrP
set_option linter.unusedVariables false
set_option linter.unusedVariables false
namespace Go.Vm
end Go.Vm
set_option maxRecDepth 100000
set_option linter.unusedVariables false
namespace Go.Vm
theorem Blk.jH {c : Blk} {o : Nat} {l : List V} (h : ∀ j, j < l.length → c.get (o + j) = l.getD j qE) {n : Nat} (hn : n = l.length) : c.gets o n = l := by
 subst hn
 apply List.ext_getElem?
 intro j
 by_cases hj : j < l.length
 ·rw [Blk.qM _ _ _ _ hj, h j hj, List.getElem?_eq_getElem hj]
  simp [List.getD, hj]
 ·rw [List.getElem?_eq_none (by rw [Blk.qJ]; omega), List.getElem?_eq_none (by omega)]
theorem Blk.xM {c : Blk} {o n : Nat} {l : List V} (hn : n = l.length) (hs : o + l.length ≤ c.size) : (c.jL o l).gets o n = l :=
 Blk.jH (fun j hj => by rw [Blk.get_putA _ _ _ _ (by omega), if_pos (by omega), show o + j - o = j by omega]) hn
theorem Blk.gets_putA_ne {c : Blk} {o p n : Nat} {l : List V} (hs : p + n ≤ c.size) (hd : p + n ≤ o ∨ o + l.length ≤ p) : (c.jL o l).gets p n = c.gets p n := by
 refine Blk.jH (fun j hj => ?_) (by rw [Blk.qJ])
 rw [Blk.qJ] at hj
 rw [Blk.get_putA _ _ _ _ (by omega), if_neg (by omega), List.getD_eq_getElem?_getD, Blk.qM _ _ _ _ hj, Option.getD_some]
end Go.Vm
namespace Go.Proofs.Ytakgjjbmniilhaa
open Go Go.Vm
attribute [-go_sem] qQ

def secN : Nat := 128
theorem zA : secN = 128 := rfl
theorem sz101 : szV Try.prog 101 = some secN := qQ
def zS (l : List V) : Prop := l.length = secN ∧ ∀ v ∈ l, ∃ n : Int, v = .int .u8 n ∧ 0 ≤ n ∧ n ≤ 255
theorem zS.one {l : List V} (h : zS l) : allOne l = true := by
 have : ∀ l : List V, (∀ v ∈ l, ∃ n : Int, v = .int .u8 n ∧ 0 ≤ n ∧ n ≤ 255) → allOne l = true := by
  intro l
  induction l with
  | nil => intro _; rfl
  | cons v r ih =>
   intro h
   obtain ⟨n, rfl, _⟩ := h v (by simp)
   exact ih fun v hv => h v (by simp [hv])
 exact this l h.2
structure DS where
 n : Nat
 fl : Nat → List V
 pe : Nat → List (List V)
 wr : Int
structure DL where
 fb : Nat
 mb : Nat
 pb : Nat → Nat
 cap : Nat
 ex : Bool
structure PendAt (h : Heap) (bd : Nat) (L : DL) (D : DS) (es : kQ) : Prop where
 has : ∀ x : Nat, zG es x = if D.pe x = [] then none else some (.slice (some (L.pb x, 0)) (D.pe x).length (D.pe x).length false)
 neg : ∀ x : Int, x < 0 → zG es x = none
 blk : ∀ x, D.pe x ≠ [] → h.get (L.pb x) = some (.cells (Blk.of (D.pe x).flatten) 101) ∧ L.pb x ≠ bd ∧ L.pb x ≠ L.fb ∧ L.pb x ≠ L.mb
 inj : ∀ x y, D.pe x ≠ [] → D.pe y ≠ [] → x ≠ y → L.pb x ≠ L.pb y
structure DiskAt (h : Heap) (bd : Nat) (L : DL) (D : DS) : Prop where
 pos : 1 ≤ D.n ∧ D.n ≤ 4096
 d : ∃ c, h.get bd = some (.cells c 80) ∧ c.size = 3 ∧ c.ro = false ∧ c.get 0 = .slice (some (L.fb, 0)) D.n L.cap L.ex ∧ c.get 1 = .map (some L.mb) ∧ c.get 2 = .int .i64 D.wr
 f : ∃ c, h.get L.fb = some (.cells c 101) ∧ c.size = D.n * 128 ∧ c.ro = false ∧ ∀ s, s < D.n → c.gets (s * 128) secN = D.fl s
 m : ∃ es ck, h.get L.mb = some (.map es ck) ∧ IMap es ck ∧ PendAt h bd L D es
 fl : ∀ s, s < D.n → zS (D.fl s)
 pe : ∀ s, ∀ l ∈ D.pe s, zS l
 out : ∀ s, D.n ≤ s → D.pe s = []
 few : ∀ s, (D.pe s).length ≤ 1000000000
theorem there_ok {h : Heap} {R W : Set'} {bd : Nat} {L : DL} {D : DS} (hd : DiskAt h bd L D) (hR : R bd) : SF Try.prog 60 [.ptr (some (bd, 0))] h R W fun v h' => v = .bool true ∧ h' = h := by
 obtain ⟨c, h1, hs, _, c0, _⟩ := hd.d
 have hp := hd.pos
 refine SF.go hm Try.func60 ir60_eq ?_
 simp -implicitDefEqProofs (disch := omega) only [go_sem, seval, ↓reduceIte, reduceCtorEq, ir60, h1, c0, hR]
def askV (D : DS) (k : Int) : Int := if 0 ≤ k ∧ k < D.n then 0 else 2
set_option maxHeartbeats 4000000 in
theorem ask_ok {h : Heap} {R W : Set'} {bd : Nat} {L : DL} {D : DS} (hd : DiskAt h bd L D) (hR : R bd) (k : Int) : SF Try.prog 63 [.ptr (some (bd, 0)), .int .i64 k] h R W fun v h' => v = .int .i64 (askV D k) ∧ h' = h := by
 obtain ⟨c, h1, hs, _, c0, _⟩ := hd.d
 have hp := hd.pos
 refine SF.go hm Try.func63 ir63_eq ?_
 simp -implicitDefEqProofs (disch := omega) only [go_sem, seval, ↓reduceIte, reduceCtorEq, ir63]
 refine qK.of (there_ok hd (.inr hR)) ?_
 rintro v h' ⟨rfl, rfl⟩
 by_cases hk : 0 ≤ k
 ·by_cases hk2 : k < D.n
  ·have e : askV D k = 0 := if_pos ⟨hk, hk2⟩
   simp -implicitDefEqProofs (disch := omega) only [go_sem, seval, ↓reduceIte, reduceCtorEq, h1, c0, hR, e]
  ·have e : askV D k = 2 := if_neg (by omega)
   simp -implicitDefEqProofs (disch := omega) only [go_sem, seval, ↓reduceIte, reduceCtorEq, h1, c0, hR, e]
 ·have e : askV D k = 2 := if_neg (by omega)
  simp -implicitDefEqProofs (disch := omega) only [go_sem, seval, ↓reduceIte, reduceCtorEq, qE, e]
end Go.Proofs.Ytakgjjbmniilhaa
set_option maxRecDepth 100000
set_option linter.unusedVariables false
namespace Go.Proofs.Ytakgjjbmniilhaa
open Go Go.Vm
attribute [-go_sem] qQ
theorem zv_77 : zeroV Try.prog 77 = some (.slice none 0 0 true) := by kernel_rfl
theorem zv_101 : zeroV Try.prog 101 = some (.agg jD) := by kernel_rfl
theorem ze_eq : jD = List.replicate secN (.int .u8 0) := by kernel_rfl
theorem ze_sec : zS jD := by
 rw [ze_eq]
 refine ⟨by simp, fun v hv => ⟨0, (List.mem_replicate.1 hv).2, by omega, by omega⟩⟩
theorem flat_len {ll : List (List V)} (h : ∀ l ∈ ll, zS l) : ll.flatten.length = ll.length * 128 := by
 induction ll with
 | nil => rfl
 | cons a r ih =>
  rw [List.flatten_cons, List.length_append, ih fun l hl => h l (by simp [hl]), (h a (by simp)).1, List.length_cons]
  have := zA; omega
theorem flat_get : ∀ {ll : List (List V)}, (∀ l ∈ ll, zS l) → ∀ {i : Nat} {l : List V}, ll[i]? = some l → ∀ {j : Nat}, j < 128 → ll.flatten.getD (i * 128 + j) qE = l.getD j qE
 | [], _, i, l, h, j, _ => by simp at h
 | a :: r, hs, 0, l, h, j, hj => by
  simp at h; subst h
  have := (hs a (by simp)).1
  have hN := zA
  rw [List.flatten_cons, Nat.zero_mul, Nat.zero_add, List.getD_eq_getElem?_getD, List.getD_eq_getElem?_getD, List.getElem?_append_left (by omega)]
 | a :: r, hs, i + 1, l, h, j, hj => by
  have := (hs a (by simp)).1
  have hN := zA
  rw [List.flatten_cons, List.getD_eq_getElem?_getD, List.getElem?_append_right (by omega), show (i + 1) * 128 + j - a.length = i * 128 + j by omega, ← List.getD_eq_getElem?_getD]
  exact flat_get (fun l hl => hs l (by simp [hl])) (by simpa using h) hj
theorem flat_gets {ll : List (List V)} (hs : ∀ l ∈ ll, zS l) {i : Nat} {l : List V} (h : ll[i]? = some l) : (Blk.of ll.flatten).gets (i * 128) secN = l := by
 have hl := hs l (List.mem_of_getElem? h)
 have hi := (List.getElem?_eq_some_iff.1 h).1
 have hN := zA
 refine Blk.jH (fun j hj => ?_) (by rw [hl.1])
 rw [hl.1] at hj
 rw [Blk.get_of _ _ (by rw [flat_len hs]; omega), flat_get hs h (by omega)]
def DS.seen (D : DS) (s : Nat) : List V := match (D.pe s).getLast? with
 | some l => l
 | none => D.fl s
theorem DS.seen_nil {D : DS} {s : Nat} (h : D.pe s = []) : D.seen s = D.fl s := by simp [DS.seen, h]
theorem DS.seen_get {D : DS} {s : Nat} (h : D.pe s ≠ []) : (D.pe s)[(D.pe s).length - 1]? = some (D.seen s) := by
 unfold DS.seen
 rw [List.getLast?_eq_getElem?]
 have : (D.pe s).length - 1 < (D.pe s).length := by
  have := List.length_pos_iff.2 h; omega
 rw [List.getElem?_eq_getElem this]
theorem DiskAt.seen {h : Heap} {bd : Nat} {L : DL} {D : DS} (hd : DiskAt h bd L D) {s : Nat} (hs : s < D.n) : zS (D.seen s) := by
 by_cases he : D.pe s = []
 ·rw [DS.seen_nil he]; exact hd.fl s hs
 ·exact hd.pe s _ (List.mem_of_getElem? (DS.seen_get he))
def zZ (bd : Nat) (L : DL) (D : DS) : Set' := fun b => b = bd ∨ b = L.fb ∨ b = L.mb ∨ ∃ x, D.pe x ≠ [] ∧ b = L.pb x
theorem PendAt.same {h h' : Heap} {bd : Nat} {L : DL} {D : DS} {es : kQ} (hp : PendAt h bd L D es) (hk : ∀ b, zZ bd L D b → b < h.n → h'.get b = h.get b) : PendAt h' bd L D es :=
 ⟨hp.has, hp.neg, fun x hx => ⟨by rw [hk _ (.inr (.inr (.inr ⟨x, hx, rfl⟩))) (Heap.lt_of_get (hp.blk x hx).1)]; exact (hp.blk x hx).1, (hp.blk x hx).2⟩, hp.inj⟩
theorem DiskAt.same {h h' : Heap} {bd : Nat} {L : DL} {D : DS} (hd : DiskAt h bd L D) (hk : ∀ b, zZ bd L D b → b < h.n → h'.get b = h.get b) : DiskAt h' bd L D := by
 obtain ⟨hp, ⟨c, d1, d2⟩, ⟨f, f1, f2⟩, ⟨es, ck, m1, m2, m3⟩, h1, h2, h3, h4⟩ := hd
 exact ⟨hp, ⟨c, by rw [hk _ (.inl rfl) (Heap.lt_of_get d1)]; exact d1, d2⟩, ⟨f, by rw [hk _ (.inr (.inl rfl)) (Heap.lt_of_get f1)]; exact f1, f2⟩, ⟨es, ck, by rw [hk _ (.inr (.inr (.inl rfl))) (Heap.lt_of_get m1)]; exact m1, m2, m3.same hk⟩, h1, h2, h3, h4⟩
theorem DiskAt.old {h h' : Heap} {bd : Nat} {L : DL} {D : DS} (hd : DiskAt h bd L D) (hk : ∀ b, b < h.n → h'.get b = h.get b) : DiskAt h' bd L D := hd.same fun b _ hb => hk b hb
theorem DiskAt.push {h : Heap} {bd : Nat} {L : DL} {D : DS} (hd : DiskAt h bd L D) (o : O) : DiskAt (h.push o) bd L D := hd.old fun b hb => by rw [Heap.yR, if_neg (by omega)]
theorem DiskAt.lt {h : Heap} {bd : Nat} {L : DL} {D : DS} (hd : DiskAt h bd L D) : ∀ b, zZ bd L D b → b < h.n := by
 obtain ⟨hp, ⟨c, d1, d2⟩, ⟨f, f1, f2⟩, ⟨es, ck, m1, m2, m3⟩, h1, h2, h3, h4⟩ := hd
 rintro b (rfl | rfl | rfl | ⟨x, hx, rfl⟩)
 ·exact Heap.lt_of_get d1
 ·exact Heap.lt_of_get f1
 ·exact Heap.lt_of_get m1
 ·exact Heap.lt_of_get (m3.blk x hx).1
noncomputable def DS.new (n : Nat) : DS := ⟨n, fun _ => jD, fun _ => [], 0⟩
theorem rep_get (n : Nat) (z : List V) (i : Nat) : (Blk.rep n z).get i = z.getD (i % z.length) qE := by simp [Blk.get, layGet, Blk.rep, Tr.get_nil]
theorem rep_gets {n s : Nat} : (Blk.rep (n * 128) jD).gets (s * 128) secN = jD := by
 have hl := zel_101
 have hN := zA
 refine Blk.jH (fun j hj => ?_) (by omega)
 rw [rep_get, show (s * 128 + j) % jD.length = j by rw [hl]; omega]
set_option maxHeartbeats 4000000 in
theorem new_ok {h : Heap} {R W : Set'} {n : Int} (hn : 1 ≤ n ∧ n ≤ 4096) : SF Try.prog 8 [.int .i64 n] h R W fun v h' => ∃ L : DL, v = .tuple [.ptr (some (h.n + 2, 0)), .int .i64 0] ∧ h.n ≤ L.fb ∧ h.n ≤ L.mb ∧ DiskAt h' (h.n + 2) L (DS.new n.toNat) := by
 have hc : 0 ≤ n ∧ n ≤ n ∧ 128 * n.toNat ≤ 281474976710656 ∧ n ≤ 9223372036854775807 := by omega
 refine SF.go hm Try.func8 ir8_eq ?_
 simp -implicitDefEqProofs (disch := first | omega | (simp -implicitDefEqProofs only [szs, ne_eq] <;> omega) | fail) only [go_sem, seval, ↓reduceIte, reduceCtorEq, ir8, hc]
 refine ⟨⟨h.n, h.n + 1, fun _ => 0, n.toNat, true⟩, Nat.le_refl _, Nat.le_succ _, ?_⟩
 ·have hl := zel_101
  refine ⟨by simp only [DS.new]; omega, ⟨Blk.of [V.slice (some (h.n, 0)) n.toNat n.toNat true, V.map (some (h.n + 1)), V.int IntKind.i64 0], by simp -implicitDefEqProofs (disch := first | omega | (simp -implicitDefEqProofs only [szs, ne_eq] <;> omega) | fail) only [go_sem, seval], rfl, rfl, rfl, rfl, rfl⟩, ⟨Blk.rep (n.toNat * 128) jD, by simp -implicitDefEqProofs (disch := first | omega | (simp -implicitDefEqProofs only [szs, ne_eq] <;> omega) | fail) only [go_sem, seval], rfl, rfl, fun s _ => rep_gets⟩, ⟨[], 0, by simp -implicitDefEqProofs (disch := first | omega | (simp -implicitDefEqProofs only [szs, ne_eq] <;> omega) | fail) only [go_sem, seval], IMap.nil, ⟨fun x => ?_, fun x _ => rfl, fun x hx => absurd rfl hx, fun x y hx => absurd rfl hx⟩⟩, fun s _ => ze_sec, fun s l hl => by simp [DS.new] at hl, fun s _ => rfl, fun s => by simp [DS.new]⟩
  simp [DS.new, zG]
theorem DiskAt.look {h : Heap} {bd : Nat} {L : DL} {D : DS} (hd : DiskAt h bd L D) (s : Nat) : lookV Try.prog 78 h (.map (some L.mb)) (.int .i64 s) false = some (if D.pe s = [] then .slice none 0 0 true else .slice (some (L.pb s, 0)) (D.pe s).length (D.pe s).length false, [L.mb]) := by
 obtain ⟨es, ck, m1, m2, m3⟩ := hd.m
 rw [look_int Try.underlying78 Try.underlying3 zv_77 m1 m2, m3.has]
 split <;> rfl
set_option maxHeartbeats 4000000 in
theorem seen_ok {h : Heap} {R W : Set'} {bd : Nat} {L : DL} {D : DS} (hd : DiskAt h bd L D) (hR : ∀ b, zZ bd L D b → R b) {s : Nat} (hs : s < D.n) : SF Try.prog 64 [.ptr (some (bd, 0)), .int .i64 s] h R W fun v h' => v = .agg (D.seen s) ∧ h'.n = h.n + 1 ∧ ∀ b, b < h.n → h'.get b = h.get b := by
 have hz : h.get bd ≠ none := by obtain ⟨c, e, _⟩ := hd.d; rw [e]; simp
 have hd2 := hd.push (.cells (Blk.of jD) 101)
 have hl := hd2.look s
 obtain ⟨c, h1, sz, _, c0, c1, c2⟩ := hd2.d
 obtain ⟨f, f1, fs, _, fg⟩ := hd2.f
 have hR1 := hR bd (.inl rfl)
 have hR2 := hR L.fb (.inr (.inl rfl))
 have hR3 := hR L.mb (.inr (.inr (.inl rfl)))
 have hsec := hd.seen hs
 have hN := zA
 have hone := hsec.one
 have hslen := hsec.1
 have zl := zel_101
 refine SF.go hm Try.func64 ir64_eq ?_
 by_cases he : D.pe s = []
 ·rw [if_pos he] at hl
  have hse := DS.seen_nil he
  rw [hse] at hslen hone ⊢
  have hps : ((Blk.of jD).jL 0 (D.fl s)).gets 0 secN = D.fl s := Blk.xM hslen.symm (by rw [jB]; omega)
  simp -implicitDefEqProofs (disch := first | omega | (simp -implicitDefEqProofs only [szs, ne_eq] <;> omega) | fail) only [go_sem, seval, ↓reduceIte, reduceCtorEq, ir64, zv_101, h1, c0, c1, hl, hR1, hR2, hR3, f1, fs, fg, sz101, qE, ↓hone, hps]
  intro b hb
  simp -implicitDefEqProofs (disch := first | omega | (simp -implicitDefEqProofs only [szs, ne_eq] <;> omega) | fail) only [go_sem, seval]
 ·rw [if_neg he] at hl
  obtain ⟨es, ck, _, _, hpd⟩ := hd2.m
  have hp0 := List.length_pos_iff.2 he
  have hto : (((D.pe s).length : Int) - 1).toNat = (D.pe s).length - 1 := by omega
  have hfew := hd.few s
  have hbk := (hpd.blk s he).1
  have hfl := flat_len (hd.pe s)
  have hgs := flat_gets (hd.pe s) (DS.seen_get he)
  have hR4 := hR (L.pb s) (.inr (.inr (.inr ⟨s, he, rfl⟩)))
  have hps : ((Blk.of jD).jL 0 (D.seen s)).gets 0 secN = D.seen s := Blk.xM hslen.symm (by rw [jB]; omega)
  simp -implicitDefEqProofs (disch := first | omega | (simp -implicitDefEqProofs only [szs, ne_eq] <;> omega) | fail) only [go_sem, seval, ↓reduceIte, reduceCtorEq, ir64, zv_101, h1, c1, hl, hR1, hR3, hR4, hbk, hfl, hto, hgs, sz101, qE, ↓hone, hps]
  intro b hb
  simp -implicitDefEqProofs (disch := first | omega | (simp -implicitDefEqProofs only [szs, ne_eq] <;> omega) | fail) only [go_sem, seval]
def SecAt (h : Heap) (b : Nat) (l : List V) : Prop := ∃ c, h.get b = some (.cells c 101) ∧ c.size = 128 ∧ c.ro = false ∧ c.gets 0 secN = l
set_option maxHeartbeats 4000000 in
theorem read_ok {h : Heap} {R W : Set'} {bd : Nat} {L : DL} {D : DS} (hd : DiskAt h bd L D) (hR : ∀ b, zZ bd L D b → R b) {s : Nat} (hs : s < D.n) : SF Try.prog 29 [.ptr (some (bd, 0)), .int .i64 s] h R W fun v h' => ∃ b, v = .tuple [.slice (some (b, 0)) 128 128 true, .int .i64 0] ∧ SecAt h' b (D.seen s) ∧ h.n ≤ b ∧ b < h'.n ∧ ∀ b, b < h.n → h'.get b = h.get b := by
 have hsec := hd.seen hs
 have hN := zA
 have hone := hsec.one
 have hslen := hsec.1
 have zl := zel_101
 refine SF.go hm Try.func29 ir29_eq ?_
 simp -implicitDefEqProofs (disch := first | omega | (simp -implicitDefEqProofs only [szs, ne_eq] <;> omega) | fail) only [go_sem, seval, ↓reduceIte, reduceCtorEq, ir29]
 refine qK.of (ask_ok hd (.inr (hR bd (.inl rfl))) s) ?_
 rintro v h' ⟨rfl, rfl⟩
 have ha : askV D s = 0 := if_pos ⟨by omega, by omega⟩
 rw [ha]
 simp -implicitDefEqProofs (disch := first | omega | (simp -implicitDefEqProofs only [szs, ne_eq] <;> omega) | fail) only [go_sem, seval, ↓reduceIte, reduceCtorEq]
 refine qK.of (seen_ok hd (fun b hb => .inr (hR b hb)) hs) ?_
 rintro v h2 ⟨rfl, hn2, hold⟩
 simp -implicitDefEqProofs (disch := first | omega | (simp -implicitDefEqProofs only [szs, ne_eq] <;> omega) | fail) only [go_sem, seval, ↓reduceIte, reduceCtorEq, zv_101, sz101, ↓hone]
 have hps : ((Blk.of jD).jL 0 (D.seen s)).gets 0 secN = D.seen s := Blk.xM hslen.symm (by rw [jB]; omega)
 refine ⟨.inl (by omega), h2.n, rfl, ⟨(Blk.of jD).jL 0 (D.seen s), by simp -implicitDefEqProofs (disch := first | omega | (simp -implicitDefEqProofs only [szs, ne_eq] <;> omega) | fail) only [go_sem, seval], by rw [Blk.jR, jB]; exact zl, by rw [Blk.yU, Blk.ro_of], hps⟩, by omega, by omega, fun b hb => ?_⟩
 simp -implicitDefEqProofs (disch := first | omega | (simp -implicitDefEqProofs only [szs, ne_eq] <;> omega) | fail) only [go_sem, seval, hold]
end Go.Proofs.Ytakgjjbmniilhaa
set_option maxRecDepth 100000
set_option linter.unusedVariables false
namespace Go.Vm
theorem append_firstS {P : Program} {e sz bytes : Nat} {h : Heap} {xb : Nat} {cx : Blk} {te : TypeId} {vs : List V} (hx : h.get xb = some (.cells cx te)) (hs : sz ≤ cx.size) (hv : cx.gets 0 sz = vs) (hb : bytes ≤ 140737488355328) :
  appE e sz bytes (.slice none 0 0 true) (.slice (some (xb, 0)) 1 1 true) h = some ⟨.slice (some (h.n, 0)) 1 1 false, h.push (.cells (Blk.of vs) e), [xb], []⟩ := by
 have hl : vs.length = sz := by rw [← hv, Blk.qJ]
 unfold appE
 simp only [xH, kT, hx, Nat.one_mul, Nat.zero_add, qW hs, hv, zL hl, Nat.zero_mul, List.length_nil, zL (rfl : 0 = 0), qW hb]
 rfl
theorem append_nextS {P : Program} {e sz bytes n : Nat} {h : Heap} {xb bj : Nat} {cx : Blk} {te : TypeId} {vs l : List V} (hx : h.get xb = some (.cells cx te)) (hs : sz ≤ cx.size) (hv : cx.gets 0 sz = vs) (hv1 : allOne vs = true) (hn : n * sz = l.length) (hj : h.get bj = some (.cells (Blk.of l) e)) (hb : (n + 1) * bytes ≤ 140737488355328) (hbig : n + 1 ≤ 9223372036854775807) :
  appE e sz bytes (.slice (some (bj, 0)) n n false) (.slice (some (xb, 0)) 1 1 true) h = some ⟨.slice (some (h.n, 0)) (n + 1) (n + 1) false, (h.set bj .dead).push (.cells (Blk.of (l ++ vs)) e), [xb] ++ [bj], [bj]⟩ := by
 have hl : vs.length = sz := by rw [← hv, Blk.qJ]
 unfold appE
 simp only [xH, kT, hx, Nat.one_mul, Nat.zero_add, qW hs, hv, zL hl, w_ble_f (show n < n + 1 by omega), hj, jB, qW (show n * sz ≤ l.length by omega), xK l hn, zL (show l.length = n * sz from hn.symm), qW hb, qW hbig]
 simp only [yM, hj, zL (rfl : e = e), jB, Nat.zero_add, zL hn, hv1, Blk.ro_of]
theorem putL_all : ∀ (l z p : List V), z.length = l.length → putL (p ++ z) p.length l = p ++ l
 | [], z, p, h => by
  have : z = [] := List.length_eq_zero_iff.1 h
  subst this; rfl
 | v :: l, [], p, h => by simp at h
 | v :: l, w :: z, p, h => by
  simp only [putL]
  have e : (p ++ w :: z).set p.length v = (p ++ [v]) ++ z := by
   rw [List.set_append_right _ _ (Nat.le_refl _), Nat.sub_self, List.set_cons_zero]; simp
  have := putL_all l z (p ++ [v]) (by simpa using h)
  rw [e, show p.length + 1 = (p ++ [v]).length by simp, this]
  simp
end Go.Vm
namespace Go.Proofs.Ytakgjjbmniilhaa
open Go Go.Vm
attribute [-go_sem] qQ
theorem ap_77 : apT Try.prog 77 77 = some (101, 128, 128) := by kernel_rfl
theorem bs_77_1 (ps : List (Nat × V)) : kD Try.prog 77 1 ps = match zJ (fun i => some (i * 128, 128)) jD ps with | some r => some (101, r) | none => none := by kernel_rfl
theorem bs_77_sec {l : List V} (hl : zS l) : kD Try.prog 77 1 [(0, .agg l)] = some (101, l) := by
 have h1 := hl.1
 have hN := zA
 have zl := zel_101
 have := putL_all l jD [] (by omega)
 simp only [List.nil_append, List.length_nil] at this
 rw [bs_77_1, w_fill_cons]
 simp only [Nat.zero_mul, w_agg, this, w_fill_nil]
 rw [if_pos (by omega)]
theorem arr_101 (a : Option (Nat × Nat)) (cap : Nat) (ex : Bool) : arrAtV Try.prog 101 (.slice a 128 cap ex) = some (.ptr a) := by
 simp [arrAtV, Try.underlying101]
def SecV (h : Heap) (v : V) (l : List V) : Prop := ∃ b o cap ex c ce, v = .slice (some (b, o)) 128 cap ex ∧ h.get b = some (.cells c ce) ∧ o + 128 ≤ c.size ∧ c.gets o secN = l
def DS.write (D : DS) (s : Nat) (l : List V) : DS := { D with pe := fun x => if x = s then D.pe s ++ [l] else D.pe x, wr := IntKind.i64.wrap (D.wr + 1) }
def DL.write (L : DL) (s nb : Nat) : DL := { L with pb := fun x => if x = s then nb else L.pb x }
theorem DiskAt.write {h h' : Heap} {bd : Nat} {L : DL} {D : DS} {s nb : Nat} {l : List V} (hd : DiskAt h bd L D) (hs : s < D.n) (hl : zS l) (few : (D.pe s).length < 1000000000) (hn : h.n ≤ nb)
  (hk : ∀ b, b < h.n → b ≠ bd → b ≠ L.mb → (D.pe s ≠ [] → b ≠ L.pb s) → h'.get b = h.get b)
  (kd : ∃ c, h'.get bd = some (.cells c 80) ∧ c.size = 3 ∧ c.ro = false ∧ c.get 0 = .slice (some (L.fb, 0)) D.n L.cap L.ex ∧ c.get 1 = .map (some L.mb) ∧ c.get 2 = .int .i64 (IntKind.i64.wrap (D.wr + 1)))
  (km : ∃ es ck es' ck', h.get L.mb = some (.map es ck) ∧ h'.get L.mb = some (.map es' ck') ∧ IMap es' ck' ∧ ∀ x, zG es' x = if x = s then some (.slice (some (nb, 0)) ((D.pe s).length + 1) ((D.pe s).length + 1) false) else zG es x)
  (kb : h'.get nb = some (.cells (Blk.of ((D.pe s).flatten ++ l)) 101)) : DiskAt h' bd (L.write s nb) (D.write s l) := by
 obtain ⟨hp, ⟨c, d1, d2⟩, ⟨f, f1, f2⟩, ⟨es, ck, m1, m2, m3⟩, h1, h2, h3, h4⟩ := hd
 obtain ⟨es0, ck0, es', ck', e0, e1, e2, e3⟩ := km
 rw [m1] at e0
 obtain ⟨rfl, rfl⟩ : es = es0 ∧ ck = ck0 := by simpa using e0
 have hfb := Heap.lt_of_get f1
 have hbd := Heap.lt_of_get d1
 have hmb := Heap.lt_of_get m1
 refine ⟨hp, kd, ⟨f, ?_, f2⟩, ⟨es', ck', e1, e2, ?_⟩, h1, ?_, ?_, ?_⟩
 ·rw [show (L.write s nb).fb = L.fb from rfl, hk _ hfb ?_ ?_ ?_]; exact f1
  ·intro e; rw [e, d1] at f1; cases f1
  ·intro e; rw [e, m1] at f1; cases f1
  ·intro e e1; exact (m3.blk s e).2.2.1 e1.symm
 ·refine ⟨fun x => ?_, fun x hx => ?_, fun x hx => ?_, fun x y hx hy hxy => ?_⟩
  ·rw [e3]
   by_cases hx : x = s
   ·subst hx; simp [DS.write, DL.write]
   ·rw [if_neg (by omega), m3.has]; simp [DS.write, DL.write, hx]
  ·rw [e3, if_neg (by omega)]; exact m3.neg x hx
  ·by_cases hxs : x = s
   ·subst hxs
    simp only [DS.write, DL.write, if_true]
    refine ⟨?_, by omega, by omega, by omega⟩
    rw [kb]; simp
   ·simp only [DS.write, DL.write, if_neg hxs] at hx ⊢
    obtain ⟨b1, b2, b3, b4⟩ := m3.blk x hx
    refine ⟨?_, b2, b3, b4⟩
    rw [hk _ (Heap.lt_of_get b1) b2 b4 fun e e1 => m3.inj x s hx e hxs e1]; exact b1
  ·simp only [DS.write, DL.write] at hx hy ⊢
   by_cases hxs : x = s
   ·rw [if_pos hxs]
    have hys : ¬ y = s := by omega
    rw [if_neg hys] at hy ⊢
    have := Heap.lt_of_get (m3.blk y hy).1
    omega
   ·rw [if_neg hxs] at hx ⊢
    by_cases hys : y = s
    ·rw [if_pos hys]
     have := Heap.lt_of_get (m3.blk x hx).1
     omega
    ·rw [if_neg hys] at hy ⊢
     exact m3.inj x y hx hy hxy
 ·intro x m hm
  simp only [DS.write] at hm
  split at hm
  ·rcases List.mem_append.1 hm with hm | hm
   ·exact h2 _ _ hm
   ·simp at hm; subst hm; exact hl
  ·exact h2 _ _ hm
 ·intro x hx
  simp only [DS.write] at hx ⊢
  rw [if_neg (by omega)]; exact h3 x hx
 ·intro x
  simp only [DS.write]
  split
  ·simp; omega
  ·exact h4 x
theorem zZ.write {bd : Nat} {L : DL} {D : DS} {s nb : Nat} {l : List V} {b : Nat} (hb : zZ bd (L.write s nb) (D.write s l) b) : zZ bd L D b ∨ b = nb := by
 rcases hb with h | h | h | ⟨x, hx, h⟩
 ·exact .inl (.inl h)
 ·exact .inl (.inr (.inl h))
 ·exact .inl (.inr (.inr (.inl h)))
 ·simp only [DS.write, DL.write] at hx h
  by_cases hxs : x = s
  ·rw [if_pos hxs] at h; exact .inr h
  ·rw [if_neg hxs] at hx h; exact .inl (.inr (.inr (.inr ⟨x, hx, h⟩)))
set_option maxHeartbeats 4000000 in
theorem write_ok {h : Heap} {R W : Set'} {bd : Nat} {L : DL} {D : DS} (hd : DiskAt h bd L D) (hR : ∀ b, zZ bd L D b → R b) (hW : ∀ b, zZ bd L D b → W b) {s : Nat} (hs : s < D.n) {v : V} {l : List V} (hv : SecV h v l) (hRv : ∀ b o m cap ex, v = .slice (some (b, o)) m cap ex → R b) (hl : zS l) (few : (D.pe s).length < 1000000000) :
  SF Try.prog 30 [.ptr (some (bd, 0)), .int .i64 s, v] h R W fun v h' => v = .int .i64 0 ∧ ∃ nb, h.n ≤ nb ∧ DiskAt h' bd (L.write s nb) (D.write s l) := by
 obtain ⟨b, o, cap, ex, cv, ce, rfl, hb, hsz, hget⟩ := hv
 have hRb := hRv b o 128 cap ex rfl
 have hlk := hd.look s
 obtain ⟨c, h1, sz, ro, c0, c1, c2⟩ := hd.d
 have hR1 := hR bd (.inl rfl)
 have hW1 := hW bd (.inl rfl)
 have hR3 := hR L.mb (.inr (.inr (.inl rfl)))
 have hW3 := hW L.mb (.inr (.inr (.inl rfl)))
 have hN := zA
 have hone := hl.one
 have hslen := hl.1
 have hlb := Heap.lt_of_get hb
 have hl1 := Heap.lt_of_get h1
 obtain ⟨es, ck, m1, m2, m3⟩ := hd.m
 have hlm := Heap.lt_of_get m1
 have hne : L.mb ≠ bd := fun e => by rw [e, h1] at m1; cases m1
 refine SF.go hm Try.func30 ir30_eq ?_
 simp -implicitDefEqProofs (disch := first | omega | (simp -implicitDefEqProofs only [szs, ne_eq] <;> omega) | fail) only [go_sem, seval, ↓reduceIte, reduceCtorEq, ir30]
 refine qK.of (ask_ok hd (.inr (hR bd (.inl rfl))) s) ?_
 rintro v h' ⟨rfl, rfl⟩
 have ha : askV D s = 0 := if_pos ⟨by omega, by omega⟩
 rw [ha]
 by_cases he : D.pe s = []
 ·rw [if_pos he] at hlk
  obtain ⟨es', ck', hu, u1, u2, u3⟩ := upd_int (P := Try.prog) (t := 78) Try.underlying78 Try.underlying3 (h := (h'.push (.cells (Blk.of l) 101)).push (.cells (Blk.of l) 101)) (r := L.mb) (es := es) (ck := ck) (by simp -implicitDefEqProofs (disch := first | omega | (simp -implicitDefEqProofs only [szs, ne_eq] <;> omega) | fail) only [go_sem, seval, m1]) m2 s (.slice (some (h'.n + 1, 0)) 1 1 false)
  simp -implicitDefEqProofs (disch := first | omega | (simp -implicitDefEqProofs only [szs, ne_eq] <;> omega) | fail) only [go_sem, seval, ↓reduceIte, reduceCtorEq, h1, c1, hlk, hR1, hR3, Try.underlying22, hb, hget, hRb, sz101, arr_101, bs_77_sec hl, qU ap_77]
  rw [append_firstS (P := Try.prog) (cx := Blk.of l) (te := 101) (vs := l) (by simp -implicitDefEqProofs (disch := first | omega | (simp -implicitDefEqProofs only [szs, ne_eq] <;> omega) | fail) only [go_sem, seval]) (by rw [jB]; omega) (xK l (by omega)) (by omega)]
  simp -implicitDefEqProofs (disch := first | omega | (simp -implicitDefEqProofs only [szs, ne_eq] <;> omega) | fail) only [go_sem, seval, ↓reduceIte, hu, h1, hlm, c2, ro, hW1, hW3]
  refine ⟨?_, h'.n + 1, by omega, hd.write hs hl few (by omega) (fun x h1 h2 h3 h4 => ?_) ⟨c.set 2 (.int .i64 (IntKind.i64.wrap (D.wr + 1))), ?_, ?_, ?_, ?_, ?_, ?_⟩ ⟨es, ck, es', ck', m1, ?_, u1, ?_⟩ ?_⟩
  ·simp only [List.not_mem_nil, or_false, false_or, and_false, false_implies, implies_true, List.mem_singleton, and_true]
   and_intros <;> intros <;> omega
  ·simp -implicitDefEqProofs (disch := first | omega | (simp -implicitDefEqProofs only [szs, ne_eq] <;> omega) | fail) only [go_sem, seval]
  ·simp -implicitDefEqProofs (disch := first | omega | (simp -implicitDefEqProofs only [szs, ne_eq] <;> omega) | fail) only [go_sem, seval]
  ·simp -implicitDefEqProofs (disch := first | omega | (simp -implicitDefEqProofs only [szs, ne_eq] <;> omega) | fail) only [go_sem, seval, sz]
  ·simp -implicitDefEqProofs (disch := first | omega | (simp -implicitDefEqProofs only [szs, ne_eq] <;> omega) | fail) only [go_sem, seval, ro]
  ·simp -implicitDefEqProofs (disch := first | omega | (simp -implicitDefEqProofs only [szs, ne_eq] <;> omega) | fail) only [go_sem, seval, c0]
  ·simp -implicitDefEqProofs (disch := first | omega | (simp -implicitDefEqProofs only [szs, ne_eq] <;> omega) | fail) only [go_sem, seval, c1]
  ·simp -implicitDefEqProofs (disch := first | omega | (simp -implicitDefEqProofs only [szs, ne_eq] <;> omega) | fail) only [go_sem, seval]
  ·simp -implicitDefEqProofs (disch := first | omega | (simp -implicitDefEqProofs only [szs, ne_eq] <;> omega) | fail) only [go_sem, seval]
  ·intro x; rw [u2, he]; rfl
  ·simp -implicitDefEqProofs (disch := first | omega | (simp -implicitDefEqProofs only [szs, ne_eq] <;> omega) | fail) only [go_sem, seval, he, List.flatten_nil]
 ·rw [if_neg he] at hlk
  have hbk := (m3.blk s he).1
  have hlk2 := Heap.lt_of_get hbk
  have hne1 := (m3.blk s he).2
  have hR4 := hR (L.pb s) (.inr (.inr (.inr ⟨s, he, rfl⟩)))
  have hW4 := hW (L.pb s) (.inr (.inr (.inr ⟨s, he, rfl⟩)))
  have hfl := flat_len (hd.pe s)
  obtain ⟨es', ck', hu, u1, u2, u3⟩ := upd_int (P := Try.prog) (t := 78) Try.underlying78 Try.underlying3 (h := ((h'.push (.cells (Blk.of l) 101)).set (L.pb s) .dead).push (.cells (Blk.of ((D.pe s).flatten ++ l)) 101)) (r := L.mb) (es := es) (ck := ck) (by simp -implicitDefEqProofs (disch := first | omega | (simp -implicitDefEqProofs only [szs, ne_eq] <;> omega) | fail) only [go_sem, seval, m1]) m2 s (.slice (some (h'.n + 1, 0)) ((D.pe s).length + 1) ((D.pe s).length + 1) false)
  simp -implicitDefEqProofs (disch := first | omega | (simp -implicitDefEqProofs only [szs, ne_eq] <;> omega) | fail) only [go_sem, seval, ↓reduceIte, reduceCtorEq, h1, c1, hlk, hR1, hR3, Try.underlying22, hb, hget, hRb, sz101, arr_101, bs_77_sec hl, qU ap_77]
  rw [append_nextS (P := Try.prog) (cx := Blk.of l) (te := 101) (vs := l) (l := (D.pe s).flatten) (by simp -implicitDefEqProofs (disch := first | omega | (simp -implicitDefEqProofs only [szs, ne_eq] <;> omega) | fail) only [go_sem, seval]) (by rw [jB]; omega) (xK l (by omega)) hone (by omega) (by simp -implicitDefEqProofs (disch := first | omega | (simp -implicitDefEqProofs only [szs, ne_eq] <;> omega) | fail) only [go_sem, seval, hbk]) (by omega) (by omega)]
  simp -implicitDefEqProofs (disch := first | omega | (simp -implicitDefEqProofs only [szs, ne_eq] <;> omega) | fail) only [go_sem, seval, ↓reduceIte, hu, h1, hlm, hlk2, c2, ro, hW4, hW1, hW3]
  refine ⟨?_, ?_, h'.n + 1, by omega, hd.write hs hl few (by omega) (fun x h1 h2 h3 h4 => ?_) ⟨c.set 2 (.int .i64 (IntKind.i64.wrap (D.wr + 1))), ?_, ?_, ?_, ?_, ?_, ?_⟩ ⟨es, ck, es', ck', m1, ?_, u1, ?_⟩ ?_⟩
  ·simp only [List.not_mem_nil, or_false, false_or, and_false, false_implies, implies_true, not_false_eq_true, List.mem_cons, and_true, true_and]
   and_intros <;> intros <;> omega
  ·intro x hx hm
   simp only [List.mem_cons, List.not_mem_nil, or_false] at hm
   rcases hm with rfl | rfl
   ·exact .inl (Nat.le_refl _)
   ·exact .inr hR4
  ·have := h4 he
   simp -implicitDefEqProofs (disch := first | omega | (simp -implicitDefEqProofs only [szs, ne_eq] <;> omega) | fail) only [go_sem, seval]
  ·simp -implicitDefEqProofs (disch := first | omega | (simp -implicitDefEqProofs only [szs, ne_eq] <;> omega) | fail) only [go_sem, seval]
  ·simp -implicitDefEqProofs (disch := first | omega | (simp -implicitDefEqProofs only [szs, ne_eq] <;> omega) | fail) only [go_sem, seval, sz]
  ·simp -implicitDefEqProofs (disch := first | omega | (simp -implicitDefEqProofs only [szs, ne_eq] <;> omega) | fail) only [go_sem, seval, ro]
  ·simp -implicitDefEqProofs (disch := first | omega | (simp -implicitDefEqProofs only [szs, ne_eq] <;> omega) | fail) only [go_sem, seval, c0]
  ·simp -implicitDefEqProofs (disch := first | omega | (simp -implicitDefEqProofs only [szs, ne_eq] <;> omega) | fail) only [go_sem, seval, c1]
  ·simp -implicitDefEqProofs (disch := first | omega | (simp -implicitDefEqProofs only [szs, ne_eq] <;> omega) | fail) only [go_sem, seval]
  ·simp -implicitDefEqProofs (disch := first | omega | (simp -implicitDefEqProofs only [szs, ne_eq] <;> omega) | fail) only [go_sem, seval]
  ·intro x; rw [u2]
  ·simp -implicitDefEqProofs (disch := first | omega | (simp -implicitDefEqProofs only [szs, ne_eq] <;> omega) | fail) only [go_sem, seval]
def DS.flush1 (D : DS) (s : Nat) : DS := { D with fl := fun x => if x = s then D.seen s else D.fl x, pe := fun x => if x = s then [] else D.pe x }
def DS.flush (D : DS) (a m : Nat) : DS := { D with fl := fun x => if a ≤ x ∧ x < a + m then D.seen x else D.fl x, pe := fun x => if a ≤ x ∧ x < a + m then [] else D.pe x }
theorem DS.flush_zero (D : DS) (a : Nat) : D.flush a 0 = D := by
 obtain ⟨n, fl, pe, wr⟩ := D
 simp only [DS.flush, DS.mk.injEq, true_and, and_true]
 exact ⟨funext fun x => if_neg (by omega), funext fun x => if_neg (by omega)⟩
theorem DS.flush_succ (D : DS) (a j : Nat) : (D.flush a j).flush1 (a + j) = D.flush a (j + 1) := by
 have e : (D.flush a j).seen (a + j) = D.seen (a + j) := by
  unfold DS.seen DS.flush
  simp only []
  rw [if_neg (by omega), if_neg (by omega)]
 simp only [DS.flush1, e]
 obtain ⟨n, fl, pe, wr⟩ := D
 simp only [DS.flush, DS.mk.injEq, true_and, and_true]
 constructor
 ·funext x
  by_cases hx : x = a + j
  ·subst hx; rw [if_pos rfl, if_pos (by omega)]
  ·rw [if_neg hx]
   by_cases h2 : a ≤ x ∧ x < a + j
   ·rw [if_pos h2, if_pos (by omega)]
   ·rw [if_neg h2, if_neg (by omega)]
 ·funext x
  by_cases hx : x = a + j
  ·subst hx; rw [if_pos rfl, if_pos (by omega)]
  ·rw [if_neg hx]
   by_cases h2 : a ≤ x ∧ x < a + j
   ·rw [if_pos h2, if_pos (by omega)]
   ·rw [if_neg h2, if_neg (by omega)]
theorem zZ.flush {bd : Nat} {L : DL} {D : DS} {a m b : Nat} (hb : zZ bd L (D.flush a m) b) : zZ bd L D b := by
 rcases hb with h | h | h | ⟨x, hx, h⟩
 ·exact .inl h
 ·exact .inr (.inl h)
 ·exact .inr (.inr (.inl h))
 ·simp only [DS.flush] at hx
  split at hx
  ·exact absurd rfl hx
  ·exact .inr (.inr (.inr ⟨x, hx, h⟩))
theorem DiskAt.flush1 {h h' : Heap} {bd : Nat} {L : DL} {D : DS} {s : Nat} (hd : DiskAt h bd L D) (hs : s < D.n)
  (hk : ∀ b, b < h.n → b ≠ L.fb → b ≠ L.mb → h'.get b = h.get b)
  (kf : ∃ f, h.get L.fb = some (.cells f 101) ∧ h'.get L.fb = some (.cells (f.jL (s * 128) (D.seen s)) 101))
  (km : ∃ es ck es', h.get L.mb = some (.map es ck) ∧ h'.get L.mb = some (.map es' ck) ∧ IMap es' ck ∧ ∀ x, zG es' x = if x = s then none else zG es x) : DiskAt h' bd L (D.flush1 s) := by
 have hsec := hd.seen hs
 have hN := zA
 have hsl := hsec.1
 obtain ⟨hp, ⟨c, d1, d2⟩, ⟨f, f1, f2, f3, f4⟩, ⟨es, ck, m1, m2, m3⟩, h1, h2, h3, h4⟩ := hd
 obtain ⟨f0, e0, e1⟩ := kf
 rw [f1] at e0
 obtain rfl : f = f0 := by simpa using e0
 obtain ⟨es0, ck0, es', g0, g1, g2, g3⟩ := km
 rw [m1] at g0
 obtain ⟨rfl, rfl⟩ : es = es0 ∧ ck = ck0 := by simpa using g0
 have hne1 : bd ≠ L.fb := fun e => by rw [e, f1] at d1; cases d1
 have hne2 : bd ≠ L.mb := fun e => by rw [e, m1] at d1; cases d1
 refine ⟨hp, ⟨c, by rw [hk _ (Heap.lt_of_get d1) hne1 hne2]; exact d1, d2⟩, ⟨_, e1, by rw [Blk.jR]; exact f2, by rw [Blk.yU]; exact f3, fun x hx => ?_⟩, ⟨es', ck, g1, g2, ?_⟩, fun x hx => ?_, fun x l hl => ?_, fun x hx => ?_, fun x => ?_⟩
 ·have hx : x < D.n := hx
  simp only [DS.flush1]
  by_cases hxs : x = s
  ·subst hxs
   rw [if_pos rfl]
   exact Blk.xM hsl.symm (by rw [f2]; omega)
  ·rw [if_neg hxs, Blk.gets_putA_ne (by rw [f2]; omega) (by omega)]
   exact f4 x hx
 ·refine ⟨fun x => ?_, fun x hx => ?_, fun x hx => ?_, fun x y hx hy hxy => ?_⟩
  ·rw [g3]
   by_cases hx : x = s
   ·subst hx; simp [DS.flush1]
   ·rw [if_neg (by omega), m3.has]; simp [DS.flush1, hx]
  ·rw [g3, if_neg (by omega)]; exact m3.neg x hx
  ·simp only [DS.flush1] at hx ⊢
   by_cases hxs : x = s
   ·rw [if_pos hxs] at hx; exact absurd rfl hx
   ·rw [if_neg hxs] at hx ⊢
    obtain ⟨b1, b2, b3, b4⟩ := m3.blk x hx
    exact ⟨by rw [hk _ (Heap.lt_of_get b1) b3 b4]; exact b1, b2, b3, b4⟩
  ·simp only [DS.flush1] at hx hy
   by_cases hxs : x = s
   ·rw [if_pos hxs] at hx; exact absurd rfl hx
   ·rw [if_neg hxs] at hx
    by_cases hys : y = s
    ·rw [if_pos hys] at hy; exact absurd rfl hy
    ·rw [if_neg hys] at hy
     exact m3.inj x y hx hy hxy
 ·simp only [DS.flush1]
  split
  ·exact hsec
  ·exact h1 x hx
 ·simp only [DS.flush1] at hl
  split at hl
  ·cases hl
  ·exact h2 x l hl
 ·simp only [DS.flush1]
  split
  ·rfl
  ·exact h3 x hx
 ·simp only [DS.flush1]
  split
  ·simp
  ·exact h4 x
set_option maxHeartbeats 1000000 in
theorem flush_ok {h : Heap} {R W : Set'} {bd : Nat} {L : DL} {D : DS} (hd : DiskAt h bd L D) (hR : ∀ b, zZ bd L D b → R b) (hW : ∀ b, zZ bd L D b → W b) {a m : Nat} (ham : a + m ≤ D.n) :
  SF Try.prog 38 [.ptr (some (bd, 0)), .int .i64 a, .int .i64 m] h R W fun v h' => v = .int .i64 0 ∧ DiskAt h' bd L (D.flush a m) := by
 obtain ⟨c, h1, sz, ro, c0, c1, c2⟩ := hd.d
 have hp := hd.pos
 have hR1 := hR bd (.inl rfl)
 have hR2 := hR L.fb (.inr (.inl rfl))
 have hR3 := hR L.mb (.inr (.inr (.inl rfl)))
 have hW2 := hW L.fb (.inr (.inl rfl))
 have hW3 := hW L.mb (.inr (.inr (.inl rfl)))
 refine SF.go hm Try.func38 ir38_eq ?_
 simp -implicitDefEqProofs (disch := first | omega | (simp -implicitDefEqProofs only [szs, ne_eq] <;> omega) | fail) only [go_sem, seval, ↓reduceIte, reduceCtorEq, ir38]
 refine qK.of (there_ok hd (.inr hR1)) ?_
 rintro v h' ⟨rfl, rfl⟩
 simp -implicitDefEqProofs (disch := first | omega | (simp -implicitDefEqProofs only [szs, ne_eq] <;> omega) | fail) only [go_sem, seval, ↓reduceIte, reduceCtorEq, h1, c0, hR1]
 refine kE.inv hm (fun k f g => f.mks = [] ∧ f.tm.n = 61 ∧ f.tm.get 0 = some (.ptr (some (bd, 0))) ∧ f.tm.get 1 = some (.int .i64 a) ∧ f.tm.get 2 = some (.int .i64 m) ∧ ∃ j : Nat, j + k = m ∧ f.tm.get 7 = some (.int .i64 (a + j : Nat)) ∧ h'.n ≤ g.n ∧ DiskAt g bd L (D.flush a j)) m ?_ ?_
 ·exact ⟨rfl, rfl, by simp -implicitDefEqProofs (disch := first | omega | (simp -implicitDefEqProofs only [szs, ne_eq] <;> omega) | fail) only [go_sem, seval, ↓reduceIte], by simp -implicitDefEqProofs (disch := first | omega | (simp -implicitDefEqProofs only [szs, ne_eq] <;> omega) | fail) only [go_sem, seval, ↓reduceIte, reduceCtorEq], by simp -implicitDefEqProofs (disch := first | omega | (simp -implicitDefEqProofs only [szs, ne_eq] <;> omega) | fail) only [go_sem, seval, ↓reduceIte, reduceCtorEq], 0, by omega, by simp -implicitDefEqProofs (disch := first | omega | (simp -implicitDefEqProofs only [szs, ne_eq] <;> omega) | fail) only [go_sem, seval, ↓reduceIte, reduceCtorEq], Nat.le_refl _, by rw [DS.flush_zero]; exact hd⟩
 ·rintro k ⟨⟨n', tr⟩, mks⟩ g ⟨hmk, hn', t0, t1, t2, j, hj, t7, hgn, hdj⟩
  simp only [Tm.kL] at hmk hn' t0 t1 t2 t7
  subst hmk hn'
  by_cases hjm : j < m
  ·obtain ⟨cg, k1, ksz, kro, k0, kk1, kk2⟩ := hdj.d
   have hN := zA
   have hsj : a + j < D.n := by omega
   have hsec := hdj.seen (s := a + j) hsj
   have hFt : ∀ b, zZ bd L (D.flush a j) b → zZ bd L D b := fun b hb => zZ.flush hb
   simp -implicitDefEqProofs (disch := first | omega | (simp -implicitDefEqProofs only [szs, ne_eq] <;> omega) | fail) only [go_sem, seval, ↓reduceIte, reduceCtorEq, ir38_l0, t0, t1, t2, t7, k1, k0]
   refine qN.of (R' := zZ bd L (D.flush a j)) (W' := fun _ => False) (seen_ok hdj (fun b hb => hb) (s := a + j) hsj) ?_
   rintro v g2 ⟨rfl, hn2, hold⟩
   have hd2 := hdj.old hold
   have hsucc := DS.flush_succ D a j
   have hn3 : (D.flush a j).n = D.n := rfl
   obtain ⟨D2, hD2⟩ : ∃ D2, D2 = D.flush a j := ⟨_, rfl⟩
   rw [← hD2] at hdj hsec hFt hsucc hd2 hn3 k0 ⊢
   obtain ⟨cg2, q1, qsz, qro, q0, qq1, qq2⟩ := hd2.d
   obtain ⟨f, f1, fs, fro, fg⟩ := hd2.f
   obtain ⟨es, ck, m1, m2, m3⟩ := hd2.m
   have hone := hsec.one
   have hslen := hsec.1
   have hlf := Heap.lt_of_get f1
   have hlm := Heap.lt_of_get m1
   have hlb := Heap.lt_of_get q1
   have hne1 : bd ≠ L.fb := fun e => by rw [e, f1] at q1; cases q1
   have hne2 : bd ≠ L.mb := fun e => by rw [e, m1] at q1; cases q1
   have hne3 : L.mb ≠ L.fb := fun e => by rw [e, f1] at m1; cases m1
   obtain ⟨es', hu, u1, u2, u3⟩ := del_int (P := Try.prog) (t := 78) Try.underlying78 Try.underlying3 (h := g2.set L.fb (.cells (f.jL ((a + j) * 128) (D2.seen (a + j))) 101)) (r := L.mb) (es := es) (ck := ck) (by simp -implicitDefEqProofs (disch := first | omega | (simp -implicitDefEqProofs only [szs, ne_eq] <;> omega) | fail) only [go_sem, seval, m1]) m2 (a + j : Nat)
   simp -implicitDefEqProofs (disch := first | omega | (simp -implicitDefEqProofs only [szs, ne_eq] <;> omega) | fail) only [go_sem, seval, ↓reduceIte, reduceCtorEq, t0, t1, t2, t7, q1, qq1, hR1, hW2, hW3, f1, fs, fro, sz101, ↓hone, hslen, hu]
   refine ⟨?_, ⟨fun b _ hb => .inr (hR b (hFt b hb)), fun b _ hb => hb.elim⟩, k - 1, by omega, j + 1, by omega, by simp; omega, by omega, ?_⟩
   ·have e0 : ∀ b, ¬ (g.n ≤ b ∧ b < g.n) := fun b => by omega
    simp only [List.not_mem_nil, or_false, and_false, false_implies, implies_true, not_false_eq_true, and_true, e0]
   ·rw [← hsucc]
    refine hd2.flush1 (by omega) (fun b hb h1 h2 => by simp -implicitDefEqProofs (disch := first | omega | (simp -implicitDefEqProofs only [szs, ne_eq] <;> omega) | fail) only [go_sem, seval]) ⟨f, f1, by simp -implicitDefEqProofs (disch := first | omega | (simp -implicitDefEqProofs only [szs, ne_eq] <;> omega) | fail) only [go_sem, seval]⟩ ⟨es, ck, es', m1, by simp -implicitDefEqProofs (disch := first | omega | (simp -implicitDefEqProofs only [szs, ne_eq] <;> omega) | fail) only [go_sem, seval], u1, fun x => u2 x⟩
  ·have : j = m := by omega
   subst this
   simp -implicitDefEqProofs (disch := first | omega | (simp -implicitDefEqProofs only [szs, ne_eq] <;> omega) | fail) only [go_sem, seval, ↓reduceIte, ir38_l0, t1, t2, t7]
   exact hdj
end Go.Proofs.Ytakgjjbmniilhaa
set_option maxRecDepth 100000
set_option linter.unusedVariables false
namespace Go.Vm
theorem append_in {e sz bytes off sLen sCap n o xcap : Nat} {ex xex : Bool} {h : Heap} {b xb : Nat} {c cx : Blk} {ce te : TypeId} {vs : List V} (hx : h.get xb = some (.cells cx te)) (hs : o + n * sz ≤ cx.size) (hv : cx.gets o (n * sz) = vs) (hone : allOne vs = true) (hb : h.get b = some (.cells c ce)) (hc : sLen + n ≤ sCap) (hcs : off + sLen * sz + n * sz ≤ c.size) (hro : c.ro = false) :
  appE e sz bytes (.slice (some (b, off)) sLen sCap ex) (.slice (some (xb, o)) n xcap xex) h = some ⟨.slice (some (b, off)) (sLen + n) sCap ex, h.set b (.cells (c.jL (off + sLen * sz) vs) ce), [xb], [b]⟩ := by
 have hl : vs.length = n * sz := by rw [← hv, Blk.qJ]
 unfold appE
 simp only [xH, kT, hx, qW hs, hv, qW hc, xY, hb, hl, qW hcs, hone, hro, zL (rfl : n * sz = n * sz)]
end Go.Vm
namespace Go.Proofs.Ytakgjjbmniilhaa
open Go Go.Vm
attribute [-go_sem] qQ
def byteOf : V → UInt8
 | .int _ n => UInt8.ofNat n.toNat
 | _ => 0
def jY (l : List V) : ByteArray := ⟨⟨l.map byteOf⟩⟩
theorem strL_of : ∀ {l : List V}, (∀ v ∈ l, ∃ n : Int, v = .int .u8 n ∧ 0 ≤ n ∧ n ≤ 255) → strL l = some (l.map byteOf)
 | [], _ => rfl
 | v :: r, h => by
  obtain ⟨n, rfl, _⟩ := h v (by simp)
  rw [strL, strL_of fun v hv => h v (by simp [hv])]
  rfl
theorem conv_str {h : Heap} {b o len cap : Nat} {ex : Bool} {c : Blk} {ce : TypeId} {l : List V} (hb : h.get b = some (.cells c ce)) (hs : o + len ≤ c.size) (hg : c.gets o len = l) (hl : ∀ v ∈ l, ∃ n : Int, v = .int .u8 n ∧ 0 ≤ n ∧ n ≤ 255) :
  kS Try.prog 22 9 (.slice (some (b, o)) len cap ex) h = some (.str (jY l), [b]) := by
 simp only [kS, Try.underlying22, Try.underlying9, Try.underlying5, hb, qW hs, hg, strL_of hl]
 rfl
def flatF (f : Nat → List V) : Nat → List V
 | 0 => []
 | n + 1 => flatF f n ++ f n
theorem flatF_len {f : Nat → List V} : ∀ {n : Nat}, (∀ s, s < n → zS (f s)) → (flatF f n).length = n * 128
 | 0, _ => rfl
 | n + 1, h => by
  have := (h n (by omega)).1
  have hN := zA
  rw [flatF, List.length_append, flatF_len fun s hs => h s (by omega)]; omega
theorem flatF_int {f : Nat → List V} : ∀ {n : Nat}, (∀ s, s < n → zS (f s)) → ∀ v ∈ flatF f n, ∃ n : Int, v = .int .u8 n ∧ 0 ≤ n ∧ n ≤ 255
 | 0, _, v, hv => by cases hv
 | n + 1, h, v, hv => by
  rcases List.mem_append.1 hv with hv | hv
  ·exact flatF_int (fun s hs => h s (by omega)) v hv
  ·exact (h n (by omega)).2 v hv
theorem jO : apT Try.prog 22 22 = some (5, 1, 1) := by kernel_rfl
theorem gets_split (c : Blk) (o : Nat) : ∀ (n m : Nat), c.gets o (n + m) = c.gets o n ++ c.gets (o + n) m := by
 intro n m
 refine Blk.jH (fun j hj => ?_) (by rw [List.length_append, Blk.qJ, Blk.qJ])
 rw [List.length_append, Blk.qJ, Blk.qJ] at hj
 rw [List.getD_eq_getElem?_getD]
 by_cases h : j < n
 ·rw [List.getElem?_append_left (by rw [Blk.qJ]; exact h), Blk.qM _ _ _ _ h]; rfl
 ·rw [List.getElem?_append_right (by rw [Blk.qJ]; omega), Blk.qJ, Blk.qM _ _ _ _ (by omega), show o + n + (j - n) = o + j by omega]; rfl
theorem sl_101 (b o : Nat) : kC Try.prog 101 (.ptr (some (b, o))) none none none = some (.slice (some (b, o)) 128 128 true) := by
 simp only [kC, Try.underlying101, sz_5, kJ]
 rfl
end Go.Proofs.Ytakgjjbmniilhaa
