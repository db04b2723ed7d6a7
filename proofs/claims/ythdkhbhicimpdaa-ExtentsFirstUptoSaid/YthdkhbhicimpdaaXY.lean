/- Extents' laws: steps. -/
import Derived.Test.YthdkhbhicimpdaaXX
import Derived.Test.YthdkhbhicimpdaaKn
import Derived.Test.YthdkhbhicimpdaaV4
set_option linter.unusedVariables false
set_option maxRecDepth 100000
namespace Go.Vm
end Go.Vm
namespace Go.Proofs.Ythdkhbhicimpdaa
open Go Go.Vm
attribute [-go_sem] sz_113
theorem known_ok (h : Heap) (R W : Set') : SF Try.prog 9 [] h R W fun v h' => v = .bool true ∧ h' = h := SF.closedH hm noHook_ok known_run h R W
def KeepV (h : Heap) (R : Set') (v : V) (m : Nat) (ks kw : Nat → Int) : Prop := m ≤ 9223372036854775807 ∧ ((m = 0 ∧ (v = .slice none 0 0 true ∨ ∃ a, v = .esl a)) ∨ ∃ b o cap ex c ce, v = .slice (some (b, o)) m cap ex ∧ R b ∧ h.get b = some (.cells c ce) ∧ o + m * 2 ≤ c.size ∧ ∀ i, i < m → c.get (o + i * 2) = .int .i64 (ks i) ∧ c.get (o + i * 2 + 1) = .int .i64 (kw i))
theorem KeepV.old {h h' : Heap} {R : Set'} {v : V} {m : Nat} {ks kw : Nat → Int} (hv : KeepV h R v m ks kw) (hk : ∀ b, b < h.n → h'.get b = h.get b) : KeepV h' R v m ks kw := by
  refine ⟨hv.1, hv.2.imp id ?_⟩
  rintro ⟨b, o, cap, ex, c, ce, e, hR, hb, hs⟩
  exact ⟨b, o, cap, ex, c, ce, e, hR, by rw [hk _ (Heap.lt_of_get hb)]; exact hb, hs⟩
theorem KeepV.len {h : Heap} {R : Set'} {v : V} {m : Nat} {ks kw : Nat → Int} (hv : KeepV h R v m ks kw) (g : Heap) : lenV Try.prog 46 v g = some (m, []) := by
  rcases hv.2 with ⟨rfl, rfl | ⟨a, rfl⟩⟩ | ⟨b, o, cap, ex, c, ce, rfl, _⟩ <;> simp [lenV, Try.underlying46]
theorem KeepV.one {h : Heap} {R : Set'} {v : V} {m : Nat} {ks kw : Nat → Int} (hv : KeepV h R v m ks kw) : v.one = true := by
  rcases hv.2 with ⟨_, rfl | ⟨a, rfl⟩⟩ | ⟨b, o, cap, ex, c, ce, rfl, _⟩ <;> rfl
def i64B (n : Int) : Prop := -9223372036854775808 ≤ n ∧ n ≤ 9223372036854775807
structure StepIs (h : Heap) (n1 n2 n3 : Int) (d kv : V) : Prop where
  d : ∃ l, BytesV h (fun _ => True) d l
  k : ∃ mk ks kw, KeepV h (fun _ => True) kv mk ks kw
  b : i64B n1 ∧ i64B n2 ∧ i64B n3
theorem StepIs.old {h h' : Heap} {n1 n2 n3 : Int} {d kv : V} (hs : StepIs h n1 n2 n3 d kv) (hk : ∀ b, b < h.n → h'.get b = h.get b) : StepIs h' n1 n2 n3 d kv := by
  obtain ⟨⟨l, hd⟩, ⟨mk, ks, kw, hkv⟩, hb⟩ := hs
  exact ⟨⟨l, hd.old hk⟩, ⟨mk, ks, kw, hkv.old hk⟩, hb⟩
structure StepsV (h : Heap) (v : V) (m : Nat) : Prop where
  len : m ≤ 9223372036854775807
  at' : (m = 0 ∧ (v = .slice none 0 0 true ∨ ∃ a, v = .esl a)) ∨ ∃ b o cap c ce, v = .slice (some (b, o)) m cap true ∧ h.get b = some (.cells c ce) ∧ o + m * 6 ≤ c.size ∧ ∀ i, i < m → ∃ kd n1 n2 n3 d kv, c.get (o + i * 6) = .int .i64 kd ∧ c.get (o + i * 6 + 1) = .int .i64 n1 ∧ c.get (o + i * 6 + 2) = .int .i64 n2 ∧ c.get (o + i * 6 + 3) = .int .i64 n3 ∧ c.get (o + i * 6 + 4) = d ∧ c.get (o + i * 6 + 5) = kv ∧ StepIs h n1 n2 n3 d kv
theorem StepsV.old {h h' : Heap} {v : V} {m : Nat} (hv : StepsV h v m) (hk : ∀ b, b < h.n → h'.get b = h.get b) : StepsV h' v m := by
  refine ⟨hv.len, hv.at'.imp id ?_⟩
  rintro ⟨b, o, cap, c, ce, e, hb, hs, hc⟩
  refine ⟨b, o, cap, c, ce, e, by rw [hk _ (Heap.lt_of_get hb)]; exact hb, hs, fun i hi => ?_⟩
  obtain ⟨kd, n1, n2, n3, d, kv, e0, e1, e2, e3, e4, e5, e6⟩ := hc i hi
  exact ⟨kd, n1, n2, n3, d, kv, e0, e1, e2, e3, e4, e5, e6.old hk⟩
theorem StepsV.lenV {h : Heap} {v : V} {m : Nat} (hv : StepsV h v m) (g : Heap) : lenV Try.prog 36 v g = some (m, []) := by
  rcases hv.at' with ⟨rfl, rfl | ⟨a, rfl⟩⟩ | ⟨b, o, cap, c, ce, rfl, _⟩ <;> simp [Vm.lenV, Try.underlying36]
theorem much_loop {h : Heap} {R W : Set'} {Q : Ex → Fr → Heap → Prop} {t : List It} {n : Int} {q v : V} {m : Nat} (hv : StepsV h v m) (hR : ∀ b, R b)
    (hk : ∀ tr s, s ≤ 1080000 → tr.get 0 = some (.int .i64 n) → tr.get 1 = some q → tr.get 7 = some (.int .i64 (s : Nat)) → resume (Try.prog : MP) R W none Q t (.exit 0) ⟨⟨51, tr⟩, []⟩ h)
    {tr : Tr V} (t0 : tr.get 0 = some (.int .i64 n)) (t1 : tr.get 1 = some q) (t2 : tr.get 2 = some v) (t7 : tr.get 7 = some (.int .i64 0)) (t8 : tr.get 8 = some (.int .i64 0)) : GLoop (Try.prog : MP) R W none Q ir8_l0 t ⟨⟨51, tr⟩, []⟩ h := by
  have hlen := hv.lenV
  refine GLoop.inv hm (fun k f g => g = h ∧ f.mks = [] ∧ f.tm.n = 51 ∧ f.tm.get 0 = some (.int .i64 n) ∧ f.tm.get 1 = some q ∧ f.tm.get 2 = some v ∧ ∃ j s : Nat, j + k = m ∧ s ≤ j * 18000 ∧ j ≤ 60 ∧ f.tm.get 8 = some (.int .i64 j) ∧ f.tm.get 7 = some (.int .i64 s)) m ?_ ?_
  · exact ⟨rfl, rfl, rfl, by simp -implicitDefEqProofs (disch := (first | omega | fail)) only [go_sem, t0], by simp -implicitDefEqProofs (disch := (first | omega | fail)) only [go_sem, t1], by simp -implicitDefEqProofs (disch := (first | omega | fail)) only [go_sem, t2], 0, 0, by omega, by omega, by omega, by simp -implicitDefEqProofs (disch := (first | omega | fail)) only [go_sem, t8]; rfl, by simp -implicitDefEqProofs (disch := (first | omega | fail)) only [go_sem, t7]; rfl⟩
  clear t0 t1 t2 t7 t8
  clear tr
  rintro k ⟨⟨n', tr⟩, mks⟩ g ⟨rfl, hmk, hn', t0, t1, t2, j, s, hj, hn, hj6, t8, t7⟩
  simp only [Tm.get_mk] at hmk hn' t0 t1 t2 t8 t7
  subst hmk hn'
  by_cases hjm : j < m
  · by_cases hj60 : j < 60
    · rcases hv.at' with ⟨h0, _⟩ | ⟨b, o, cap, c, ce, rfl, hb, hsz, hc⟩
      · omega
      obtain ⟨kd, n1, n2, n3, d, kv, c0, c1, c2, c3, c4, c5, ⟨⟨l, hd⟩, ⟨mk, ks, kw, hk⟩, _⟩⟩ := hc j hjm
      have hl1 := hd.lenV
      have hl2 := hk.len
      have hRb := hR b
      have hll := hd.1
      have hkl := hk.1
      simp -implicitDefEqProofs (disch := (first | omega | fail)) only [go_sem, Nat.reduceAdd, Nat.reduceLT, Nat.reduceEqDiff, ↓reduceIte, reduceCtorEq, ir8_l0, t0, t1, t2, t7, t8, ↓hlen, hb, c4, c5, ↓hl1, ↓hl2, hRb]
      refine ⟨k - 1, by omega, j + 1, s + min l.length 9000 + min mk 9000, by omega, by omega, by omega, by simp, ?_⟩
      congr 1
      split <;> split <;> omega
    · simp -implicitDefEqProofs (disch := (first | omega | fail)) only [go_sem, Nat.reduceAdd, Nat.reduceLT, Nat.reduceEqDiff, ↓reduceIte, ir8_l0, t2, t8, ↓hlen]
      exact hk _ s (by omega) (by simp -implicitDefEqProofs (disch := (first | omega | fail)) only [go_sem, ↓reduceIte, reduceCtorEq, t0]) (by simp -implicitDefEqProofs (disch := (first | omega | fail)) only [go_sem, Nat.reduceEqDiff, ↓reduceIte, t1]) (by simp -implicitDefEqProofs (disch := (first | omega | fail)) only [go_sem, Nat.reduceEqDiff, ↓reduceIte, t7])
  · simp -implicitDefEqProofs (disch := (first | omega | fail)) only [go_sem, Nat.reduceAdd, Nat.reduceLT, Nat.reduceEqDiff, ↓reduceIte, ir8_l0, t2, t8, ↓hlen, undefV]
    exact hk _ s (by omega) (by simp -implicitDefEqProofs (disch := (first | omega | fail)) only [go_sem, ↓reduceIte, reduceCtorEq, t0]) (by simp -implicitDefEqProofs (disch := (first | omega | fail)) only [go_sem, Nat.reduceEqDiff, ↓reduceIte, t1]) (by simp -implicitDefEqProofs (disch := (first | omega | fail)) only [go_sem, Nat.reduceEqDiff, ↓reduceIte, t7])
theorem much_ok {h : Heap} {R W : Set'} {n : Int} {q v : V} {mq m : Nat} (hq : ∀ g, Vm.lenV Try.prog 22 q g = some (mq, [])) (hmq : mq ≤ 9223372036854775807) (hv : StepsV h v m) (hR : ∀ b, R b) : SF Try.prog 8 [.int .i64 n, q, v] h R W fun r h' => (∃ b, r = .bool b ∧ (b = false → ¬ (64 < n ∧ n ≤ 4096) ∧ mq ≤ 20)) ∧ h' = h := by
  refine SF.go hm Try.func8 ir8_eq ?_
  simp -implicitDefEqProofs (disch := (first | omega | fail)) only [go_sem, Nat.reduceAdd, Nat.reduceSub, Nat.reduceLT, Nat.reduceMod, Nat.reduceDiv, ↓reduceIte, reduceCtorEq, ir8]
  refine much_loop (n := n) (q := q) hv (fun b => .inr (hR b)) ?_ (by simp -implicitDefEqProofs (disch := (first | omega | fail)) only [go_sem, ↓reduceIte]) (by simp -implicitDefEqProofs (disch := (first | omega | fail)) only [go_sem, Nat.reduceDiv, ↓reduceIte, reduceCtorEq]) (by simp -implicitDefEqProofs (disch := (first | omega | fail)) only [go_sem, Nat.reduceSub, Nat.reduceMod, Nat.reduceDiv, ↓reduceIte, reduceCtorEq]) (by simp -implicitDefEqProofs (disch := (first | omega | fail)) only [go_sem, Nat.reduceMod, Nat.reduceDiv, ↓reduceIte, reduceCtorEq]) (by simp -implicitDefEqProofs (disch := (first | omega | fail)) only [go_sem, Nat.reduceSub, Nat.reduceMod, Nat.reduceDiv, ↓reduceIte, reduceCtorEq])
  intro tr s hs t0 t1 t7
  by_cases hA : 64 < n ∧ n ≤ 4096
  · simp -implicitDefEqProofs (disch := (first | omega | fail)) only [go_sem, Nat.reduceAdd, Nat.reduceLT, Nat.reduceEqDiff, ↓reduceIte, reduceCtorEq, t0, undefV]
    exact ⟨true, rfl, fun h => by cases h⟩
  · by_cases hC : 20 < mq
    · by_cases hB : 64 < n
      · simp -implicitDefEqProofs (disch := (first | omega | fail)) only [go_sem, Nat.reduceAdd, Nat.reduceLT, Nat.reduceEqDiff, ↓reduceIte, reduceCtorEq, t0, t1, ↓hq, undefV]
        exact ⟨true, rfl, fun h => by cases h⟩
      · simp -implicitDefEqProofs (disch := (first | omega | fail)) only [go_sem, Nat.reduceAdd, Nat.reduceLT, Nat.reduceEqDiff, ↓reduceIte, t0, t1, ↓hq, undefV]
        exact ⟨true, rfl, fun h => by cases h⟩
    · by_cases hB : 64 < n
      · simp -implicitDefEqProofs (disch := (first | omega | fail)) only [go_sem, Nat.reduceAdd, Nat.reduceLT, Nat.reduceEqDiff, ↓reduceIte, reduceCtorEq, t0, t1, t7, ↓hq]
        exact ⟨_, rfl, fun _ => ⟨fun h => by omega, by omega⟩⟩
      · simp -implicitDefEqProofs (disch := (first | omega | fail)) only [go_sem, Nat.reduceAdd, Nat.reduceLT, Nat.reduceEqDiff, ↓reduceIte, t0, t1, t7, ↓hq, undefV]
        exact ⟨_, rfl, fun _ => ⟨fun h => by omega, by omega⟩⟩
end Go.Proofs.Ythdkhbhicimpdaa
namespace Go.Proofs.Ythdkhbhicimpdaa
open Go Go.Vm
attribute [-go_sem] sz_113
structure Shape (u : UU) : Prop where
  n : u.X.n = 3
  first : ∀ a, a < 3 → u.X.first a = 8 * a
  count : ∀ a, a < 3 → u.X.count a = 8
  d : u.D.n = 24
structure OStep (u u' : UU) : Prop where
  bx : u'.bx = u.bx
  bd : u'.bd = u.bd
  sh : Shape u'
  has : u'.X.has 1 = u.X.has 1
  fl : ∀ s, 8 ≤ s → s < 16 → u'.D.fl s = u.D.fl s ∧ u'.D.pe s = u.D.pe s
  few : ∀ s, (u'.D.pe s).length ≤ (u.D.pe s).length + 1
theorem OStep.refl {u : UU} (sh : Shape u) : OStep u u := ⟨rfl, rfl, sh, rfl, fun _ _ _ => ⟨rfl, rfl⟩, fun _ => Nat.le_succ _⟩
theorem XS.err_ne (X : XS) (a : Int) : X.err a = 6 ∨ X.err a = 2 := by unfold XS.err; split <;> simp
def UU.withX (u : UU) (X : XS) : UU := { u with X := X }
theorem AtU.withX {h h' : Heap} {u : UU} {X : XS} {a : Nat} (hu : AtU h u) (vf : VF h h' (fun b => b = u.tb a)) (ha : a < u.X.n) (hx : ExtAt h' u.bx u.bd u.tb X) (h1 : X.n = u.X.n) (h2 : X.first = u.X.first) (h3 : X.count = u.X.count) : AtU h' (u.withX X) := by
  refine ⟨hx, hu.d.same fun b hb hb2 => vf.get b hb2 ?_, fun a ha => ?_⟩
  · rintro rfl
    exact FootX.notD hu (.inr ⟨a, ha, rfl⟩) hb
  · show X.first a + X.count a ≤ u.D.n
    rw [h2, h3]
    exact hu.fit a (by rw [← h1]; exact ha)
theorem XS.took_n (X : XS) (a n : Nat) (r : Option Nat) : (X.took a n r).n = X.n ∧ (X.took a n r).first = X.first ∧ (X.took a n r).count = X.count := by cases r <;> exact ⟨rfl, rfl, rfl⟩
theorem Shape.withX {u : UU} {X : XS} (sh : Shape u) (h1 : X.n = u.X.n) (h2 : X.first = u.X.first) (h3 : X.count = u.X.count) : Shape (u.withX X) :=
  ⟨h1.trans sh.n, fun a ha => (congrFun h2 a).trans (sh.first a ha), fun a ha => (congrFun h3 a).trans (sh.count a ha), sh.d⟩
theorem utake {h : Heap} {R W : Set'} {u : UU} (hu : AtU h u) (hR : ∀ b, u.foot b → R b) (hW : ∀ b, u.foot b → W b) {a n : Nat} (ha : a < u.X.n) (hn : 1 ≤ n) (hn2 : n ≤ 9223372036854775807) : SF Try.prog 19 [.ptr (some (u.bx, 0)), .int .i64 a, .int .i64 n] h R W fun v h' => ∃ r, TakeQ (u.X.has a) (u.X.count a) n r ∧ v = takeV r ∧ AtU h' (u.withX (u.X.took a n r)) := by
  refine (((take_ok (R := u.foot) (W := fun b => b = u.tb a) hu.x (fun b hb => .inr hb) ha hn hn2 rfl).kept).foot hR (fun b hb => hW b (by rw [hb]; exact .inr (.inr ⟨a, ha, rfl⟩)))).mono ?_
  rintro v h' ⟨⟨r, h1, h2, h3⟩, vf⟩
  obtain ⟨e1, e2, e3⟩ := u.X.took_n a n r
  exact ⟨r, h1, h2, hu.withX vf ha h3 e1 e2 e3⟩
theorem ugive {h : Heap} {R W : Set'} {u : UU} (hu : AtU h u) (hR : ∀ b, u.foot b → R b) (hW : ∀ b, u.foot b → W b) {a f n : Nat} (ha : a < u.X.n) (hn : 1 ≤ n) (hn2 : n ≤ 9223372036854775807) (hf2 : f ≤ 9223372036854775807) : SF Try.prog 20 [.ptr (some (u.bx, 0)), .int .i64 a, .int .i64 f, .int .i64 n] h R W fun v h' => (u.X.full a f n ∧ v = .int .i64 0 ∧ AtU h' (u.withX (u.X.fill a f n false))) ∨ (¬ u.X.full a f n ∧ v = .int .i64 6 ∧ h' = h) := by
  refine (((give_ok (R := u.foot) (W := fun b => b = u.tb a) hu.x (fun b hb => .inr hb) ha hn hn2 hf2 rfl).kept).foot hR (fun b hb => hW b (by rw [hb]; exact .inr (.inr ⟨a, ha, rfl⟩)))).mono ?_
  rintro v h' ⟨⟨h1, h2, h3⟩ | h1, vf⟩
  · exact .inl ⟨h1, h2, hu.withX vf ha h3 rfl rfl rfl⟩
  · exact .inr h1
theorem uwrite {h : Heap} {R W Rd : Set'} {u : UU} (hu : AtU h u) (hR : ∀ b, u.foot b → R b) (hRd : ∀ b, Rd b → R b) (hW : ∀ b, u.foot b → W b) {a : Nat} (ha : a < u.X.n) (s : Int) {d : V} {l : List V} (hd : BytesV h Rd d l) (few : ∀ s, (u.D.pe s).length < 1000000000) : SF Try.prog 26 [.ptr (some (u.bx, 0)), .int .i64 a, .int .i64 s, d] h R W fun r h' =>
    (u.X.own a s ∧ l.length = 128 ∧ r = .int .i64 0 ∧ ∃ nb, h.n ≤ nb ∧ AtU h' (u.write (u.X.first a + s.toNat) nb l)) ∨ (u.X.own a s ∧ l.length ≠ 128 ∧ r = .int .i64 2 ∧ h' = h) ∨ (¬ u.X.own a s ∧ r = .int .i64 6 ∧ h' = h) := by
  by_cases ho : u.X.own a s
  · have ho' := ho
    obtain ⟨h1, h2, h3, h4⟩ := ho
    obtain ⟨s, rfl⟩ := Int.eq_ofNat_of_zero_le h2
    simp only [Int.toNat_natCast] at h3 h4 ⊢
    by_cases hl : l.length = 128
    · have hN := secN_eq
      rcases hd.2.2 with ⟨h0, _⟩ | ⟨db, dof, dcap, dex, dc, dce, rfl, hRb, hdb, hds, hdg⟩
      · rw [h0] at hl; cases hl
      have hsv : SecV h (.slice (some (db, dof)) l.length dcap dex) l := ⟨db, dof, dcap, dex, dc, dce, by rw [hl], hdb, by omega, by rw [hN, ← hl]; exact hdg⟩
      refine (xwrite_ok hu hR hW ha (by omega) h4 hsv (fun b _ _ _ _ e => by cases e; exact hRd _ hRb) ⟨by omega, hd.2.1⟩ few).mono ?_
      rintro r h' ⟨rfl, nb, hnb, hu2⟩
      exact .inl ⟨ho', hl, rfl, nb, hnb, hu2⟩
    · refine (xwrite_len hu hR ha (by omega) h4 hd.lenV hl).mono ?_
      rintro r h' ⟨rfl, rfl⟩
      exact .inr (.inl ⟨ho', hl, rfl, rfl⟩)
  · refine (xwrite_bad hu.x (fun b hb => hR b (.inr hb)) ho d).mono ?_
    rintro r h' ⟨rfl, rfl⟩
    refine .inr (.inr ⟨ho, ?_, rfl⟩)
    unfold XS.err
    rw [if_pos (by omega)]
theorem Shape.write {u : UU} (sh : Shape u) (s nb : Nat) (l : List V) : Shape (u.write s nb l) := ⟨sh.n, sh.first, sh.count, sh.d⟩
theorem Shape.flush {u : UU} (sh : Shape u) (a m : Nat) : Shape (u.flush a m) := ⟨sh.n, sh.first, sh.count, sh.d⟩
theorem write_few (D : DS) (s : Nat) (l : List V) (t : Nat) : ((D.write s l).pe t).length ≤ (D.pe t).length + 1 := by
  simp only [DS.write]
  split
  · rename_i e; subst e; simp
  · omega
theorem flush_few (D : DS) (a m : Nat) (t : Nat) : ((D.flush a m).pe t).length ≤ (D.pe t).length + 1 := by
  simp only [DS.flush]
  split
  · simp
  · omega
end Go.Proofs.Ythdkhbhicimpdaa
namespace Go.Proofs.Ythdkhbhicimpdaa
open Go Go.Vm
attribute [-go_sem] sz_113
def LC.fst : LC → LC
  | .seq a _ => a
  | c => c
def LC.snd : LC → LC
  | .seq _ b => b
  | _ => .skip
structure Sim (u w : UU) : Prop where
  su : Shape u
  sw : Shape w
  has : u.X.has 1 = w.X.has 1
  fl : ∀ s, 8 ≤ s → s < 16 → u.D.fl s = w.D.fl s ∧ u.D.pe s = w.D.pe s
theorem Sim.seen {u w : UU} (z : Sim u w) {s : Nat} (h1 : 8 ≤ s) (h2 : s < 16) : u.D.seen s = w.D.seen s := by
  obtain ⟨e1, e2⟩ := z.fl s h1 h2
  unfold DS.seen
  rw [e1, e2]
def Apart (u w : UU) : Prop := ∀ b, u.foot b → ¬ w.foot b
theorem SecAt.old {h h' : Heap} {b : Nat} {l : List V} (hs : SecAt h b l) (hk : ∀ b, b < h.n → h'.get b = h.get b) : SecAt h' b l := by
  obtain ⟨c, c1, c2⟩ := hs
  exact ⟨c, by rw [hk _ (Heap.lt_of_get c1)]; exact c1, c2⟩
theorem SecAt.conv {h : Heap} {b : Nat} {l : List V} (hs : SecAt h b l) (hl : IsSec l) : convV Try.prog 45 9 (.slice (some (b, 0)) 128 128 true) h = some (.str (strB l), [b]) := by
  obtain ⟨c, c1, c2, c3, c4⟩ := hs
  have := secN_eq
  exact conv_str c1 (by omega) (by rw [← this]; exact c4) hl.2
end Go.Proofs.Ythdkhbhicimpdaa
namespace Go.Proofs.Ythdkhbhicimpdaa
open Go Go.Vm
attribute [-go_sem] sz_113
structure Two (n : Nat) (u w u' w' : UU) (h' : Heap) : Prop where
  au : AtU h' u'
  aw : AtU h' w'
  sim : Sim u' w'
  bx : u'.bx = u.bx ∧ w'.bx = w.bx
  few : ∀ s, (u'.D.pe s).length ≤ (u.D.pe s).length + 1 ∧ (w'.D.pe s).length ≤ (w.D.pe s).length + 1
  ap : Apart u' w'
  fu : ∀ b, u'.foot b → u.foot b ∨ n ≤ b
  fw : ∀ b, w'.foot b → w.foot b ∨ n ≤ b
theorem Two.old {n : Nat} {u w u' w' : UU} {h h' : Heap} (d : Two n u w u' w' h) (hk : ∀ b, b < h.n → h'.get b = h.get b) : Two n u w u' w' h' := ⟨d.au.old hk, d.aw.old hk, d.sim, d.bx, d.few, d.ap, d.fu, d.fw⟩
theorem Two.refl {n : Nat} {u w : UU} {h : Heap} (hu : AtU h u) (hw : AtU h w) (z : Sim u w) (ap : Apart u w) : Two n u w u w h := ⟨hu, hw, z, ⟨rfl, rfl⟩, fun _ => ⟨Nat.le_succ _, Nat.le_succ _⟩, ap, fun _ h => .inl h, fun _ h => .inl h⟩
theorem Two.mk' {n : Nat} {u w u' w' : UU} {h h2 h3 : Heap} (hn : n ≤ h.n) (hu : AtU h u) (hw : AtU h w) (ap : Apart u w) (hu2 : AtU h2 u') (v2 : VF h h2 u.foot) (hw3 : AtU h3 w') (v3 : VF h2 h3 w.foot) (z : Sim u' w') (bx : u'.bx = u.bx ∧ w'.bx = w.bx) (few : ∀ s, (u'.D.pe s).length ≤ (u.D.pe s).length + 1 ∧ (w'.D.pe s).length ≤ (w.D.pe s).length + 1)
    (fu : ∀ b, u'.foot b → u.foot b ∨ h.n ≤ b) (fw : ∀ b, w'.foot b → w.foot b ∨ h2.n ≤ b) : Two n u w u' w' h3 := by
  have n2 := v2.n
  have hlt := hu2.lt
  have hlw := hw.lt
  refine ⟨hu2.same fun b hb hb2 => v3.get b hb2 fun h => ?_, hw3, z, bx, few, fun b h1 h2' => ?_, fun b hb => (fu b hb).imp id fun h => by omega, fun b hb => (fw b hb).imp id fun h => by omega⟩
  · rcases fu b hb with h1 | h1
    · exact ap b h1 h
    · have := hlw b h; omega
  · have := hlt b h1
    rcases fw b h2' with h3' | h3'
    · rcases fu b h1 with h4 | h4
      · exact ap b h4 h3'
      · have := hlw b h3'; omega
    · omega
theorem VF.other {h h2 : Heap} {u w : UU} (hw : AtU h w) (ap : Apart u w) (v2 : VF h h2 u.foot) : AtU h2 w := hw.same fun b hb hb2 => v2.get b hb2 fun h => ap b h hb
theorem Sim.withX {u w : UU} (z : Sim u w) {X Y : XS} (h1 : X.n = u.X.n ∧ X.first = u.X.first ∧ X.count = u.X.count) (h2 : Y.n = w.X.n ∧ Y.first = w.X.first ∧ Y.count = w.X.count) (he : X.has 1 = Y.has 1) : Sim (u.withX X) (w.withX Y) :=
  ⟨z.su.withX h1.1 h1.2.1 h1.2.2, z.sw.withX h2.1 h2.2.1 h2.2.2, he, z.fl⟩
theorem Sim.write {u w : UU} (z : Sim u w) (s : Nat) (nb nb' : Nat) (l : List V) : Sim (u.write s nb l) (w.write s nb' l) := by
  refine ⟨z.su.write _ _ _, z.sw.write _ _ _, z.has, fun t h1 h2 => ?_⟩
  obtain ⟨e1, e2⟩ := z.fl t h1 h2
  simp only [UU.write, DS.write]
  refine ⟨e1, ?_⟩
  split
  · rename_i e; rw [← e, e2]
  · exact e2
theorem Sim.flush {u w : UU} (z : Sim u w) : Sim (u.flush 8 8) (w.flush 8 8) := by
  refine ⟨z.su.flush _ _, z.sw.flush _ _, z.has, fun t h1 h2 => ?_⟩
  obtain ⟨e1, e2⟩ := z.fl t h1 h2
  have e3 := z.seen h1 h2
  simp only [UU.flush, DS.flush]
  rw [if_pos (by omega), if_pos (by omega), if_pos (by omega), if_pos (by omega)]
  exact ⟨e3, rfl⟩
end Go.Proofs.Ythdkhbhicimpdaa
