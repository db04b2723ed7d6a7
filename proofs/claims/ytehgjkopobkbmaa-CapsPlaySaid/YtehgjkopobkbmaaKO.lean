/- CapsOwn: steps as they come in, and two tables side by side. -/
import Derived.Test.YtehgjkopobkbmaaC7
set_option linter.unusedVariables false
set_option linter.unusedSimpArgs false
set_option linter.unusedSimpArgs false
set_option maxRecDepth 100000
set_option linter.unusedVariables false
set_option linter.unusedSimpArgs false
namespace Go.Proofs.Ytehgjkopobkbmaa
open Go Go.Vm
open Classical
/-- Only old blocks count in a footprint of what is read. -/
theorem SF.shrink {M : MP} {f : FuncId} {args : List V} {h : Heap} {R R' W : Set'} {Q : V → Heap → Prop} (hf : SF M f args h R W Q) (hr : ∀ b, b < h.n → R b → R' b) : SF M f args h R' W Q := by
  unfold SF at hf ⊢
  split at hf
  · obtain ⟨v, h', hq, h1, h2⟩ := hf
    exact ⟨v, h', hq, h1, fun H σ w p hon => (h2 H σ w ⟨fun b hb hrw => p.agree b hb (hrw.imp (hr b hb) id), p.fresh, p.inv⟩ hon).mono fun e w' hx => by
      obtain ⟨x, σ', H', a1, a2, a3⟩ := hx
      exact ⟨x, σ', H', a1, a2, ⟨a3.goes, a3.get⟩⟩⟩
  · intro H σ w p hon
    exact hf H σ w ⟨fun b hb hrw => p.agree b hb (hrw.imp (hr b hb) id), p.fresh, p.inv⟩ hon
theorem may_det {h : Heap} {tb r : Nat} {T : CS} (ht : CapAt h tb r T) (w : WF T) (a kd ob rt : Int) :
    SF Try.prog 12 [.ptr (some (tb, 0)), .int .i64 a, .int .i64 kd, .int .i64 ob, .int .i64 rt] h (fun b => b = tb ∨ b = r) (fun _ => False) fun v h' => v = .bool (mayB T a kd ob rt) ∧ h' = h :=
  SF.of_dem_val (fun b hb => by have := ht.lt; rcases hb with rfl | rfl <;> omega) trivial fun g hg hgo => SF.mono (may_ok (ht.old hgo) w (fun _ h => h) a kd ob rt) fun v _ h => h.1
theorem granted_det {h : Heap} {tb r : Nat} {T : CS} (ht : CapAt h tb r T) (w : WF T) :
    SF Try.prog 22 [.ptr (some (tb, 0))] h (fun b => b = tb ∨ b = r) (fun _ => False) fun v h' => v = .bool (grantB T) ∧ h' = h :=
  SF.of_dem_val (fun b hb => by have := ht.lt; rcases hb with rfl | rfl <;> omega) trivial fun g hg hgo => SF.mono (granted_ok (ht.old hgo) w (fun _ h => h)) fun v _ h => h.1
def WH (H : Heap) : Set' := fun b => H.n ≤ b
/-- A slice of steps. -/
structure StepsV (h : Heap) (v : V) (m : Nat) (S : Nat → St) : Prop where
  len : m ≤ 9223372036854775807
  at' : (m = 0 ∧ (v = .slice none 0 0 true ∨ ∃ a, v = .esl a)) ∨ ∃ b o cap c ce, v = .slice (some (b, o)) m cap true ∧ h.get b = some (.cells c ce) ∧ o + m * 7 ≤ c.size ∧ ∀ i, i < m → c.get (o + i * 7) = .int .i64 (S i).k ∧ c.get (o + i * 7 + 1) = .int .i64 (S i).a ∧ c.get (o + i * 7 + 2) = .int .i64 (S i).t ∧ c.get (o + i * 7 + 3) = .int .i64 (S i).th ∧ c.get (o + i * 7 + 4) = .int .i64 (S i).ob ∧ c.get (o + i * 7 + 5) = .int .i64 (S i).rt ∧ c.get (o + i * 7 + 6) = .int .i64 (S i).id
theorem StepsV.old {h h' : Heap} {v : V} {m : Nat} {S : Nat → St} (hv : StepsV h v m S) (hk : ∀ b, b < h.n → h'.get b = h.get b) : StepsV h' v m S := by
  refine ⟨hv.len, hv.at'.imp id ?_⟩
  rintro ⟨b, o, cap, c, ce, e, hb, hs, hc⟩
  exact ⟨b, o, cap, c, ce, e, by rw [hk _ (Heap.lt_of_get hb)]; exact hb, hs, hc⟩
theorem StepsV.lenV {h : Heap} {v : V} {m : Nat} {S : Nat → St} (hv : StepsV h v m S) (g : Heap) : lenV Try.prog 22 v g = some (m, []) := by
  rcases hv.at' with ⟨rfl, rfl | ⟨a, rfl⟩⟩ | ⟨b, o, cap, c, ce, rfl, _⟩ <;> simp [Vm.lenV, Try.underlying22]
/-- Two tables: a is the account 1's own; b has others' too. -/
def core (c : Cp) : Int × Int × Int := (c.kd, c.ob, c.rt)
structure OI (A B : CS) (n : Int) : Prop where
  wa : WF A
  wb : WF B
  la : A.last ≤ n
  lb : B.last ≤ n
  fa : ∃ c, findC A.L 1 = some c ∧ c.ac = 1 ∧ c.kd = 0 ∧ c.ob = 1 ∧ c.rt = 7
  fb : ∃ c, findC B.L 1 = some c ∧ c.ac = 1 ∧ c.kd = 0 ∧ c.ob = 1 ∧ c.rt = 7
  ma : ∀ c ∈ A.L, c.mr = 1 ∧ c.ac = 1
  mb : ∀ c ∈ B.L, c.mr = 1 → c.ac = 1
  eq : (B.L.filter fun c => decide (c.mr = 1)).map core = A.L.map core
theorem filter_all {α : Type} {p : α → Bool} {l : List α} (h : ∀ a ∈ l, p a = true) : l.filter p = l := List.filter_eq_self.2 h
theorem OI.made {A B : CS} {n : Int} (z : OI A B n) : madeC A.L 1 = madeC B.L 1 := by
  unfold madeC
  rw [filter_all fun c hc => decide_eq_true (z.ma c hc).1]
  have := congrArg List.length z.eq
  rw [List.length_map, List.length_map] at this
  exact this.symm
theorem OI.mineA {A B : CS} {n : Int} (z : OI A B n) : mineE A 1 1 = 0 ∧ (mineC A 1 1).kd = 0 ∧ (mineC A 1 1).ob = 1 ∧ (mineC A 1 1).rt = 7 := by
  obtain ⟨c, f, a1, a2, a3, a4⟩ := z.fa
  have h1 : okA 1 := ⟨by omega, by omega⟩
  rw [mineE, mineC, if_neg (fun h => h h1), if_neg (fun h => h h1), f]
  simp only [a1, if_true]
  exact ⟨trivial, a2, a3, a4⟩
theorem OI.mineB {A B : CS} {n : Int} (z : OI A B n) : mineE B 1 1 = 0 ∧ (mineC B 1 1).kd = 0 ∧ (mineC B 1 1).ob = 1 ∧ (mineC B 1 1).rt = 7 := by
  obtain ⟨c, f, a1, a2, a3, a4⟩ := z.fb
  have h1 : okA 1 := ⟨by omega, by omega⟩
  rw [mineE, mineC, if_neg (fun h => h h1), if_neg (fun h => h h1), f]
  simp only [a1, if_true]
  exact ⟨trivial, a2, a3, a4⟩
theorem OI.err {A B : CS} {n : Int} (z : OI A B n) (rt : Int) : underE A 1 1 1 rt 0 = underE B 1 1 1 rt 0 := by
  obtain ⟨a1, a2, a3, a4⟩ := z.mineA
  obtain ⟨b1, b2, b3, b4⟩ := z.mineB
  unfold underE addE
  rw [a1, b1, a4, b4, show (underC A 1 1 1 rt).mr = 1 from rfl, show (underC B 1 1 1 rt).mr = 1 from rfl, z.made]
theorem findC_snoc {L : List Cp} {k : Int} {c : Cp} (d : Cp) (h : findC L k = some c) : findC (L ++ [d]) k = some c := by rw [findC_append, h]
theorem OI.derive {A B : CS} {n : Int} (z : OI A B n) (hn : n < 1000000) (rt : Int) : OI (underT A 1 1 1 rt 0) (underT B 1 1 1 rt 0) (n + 1) := by
  obtain ⟨a1, a2, a3, a4⟩ := z.mineA
  obtain ⟨b1, b2, b3, b4⟩ := z.mineB
  have w1 := z.wa.under (by have := z.la; omega) 1 1 1 rt 0
  have w2 := z.wb.under (by have := z.lb; omega) 1 1 1 rt 0
  have l1 := (underT_last A 1 1 1 rt 0).2
  have l2 := (underT_last B 1 1 1 rt 0).2
  have hla := z.la
  have hlb := z.lb
  have stay : OI A B (n + 1) := ⟨z.wa, z.wb, by omega, by omega, z.fa, z.fb, z.ma, z.mb, z.eq⟩
  revert w1 w2 l1 l2
  unfold underT
  rw [a1, b1, a4, b4]
  split
  · intro _ _ _ _; exact stay
  split
  · intro _ _ _ _; exact stay
  split
  · intro _ _ _ _; exact stay
  have hca : underC A 1 1 1 rt = ⟨0, 1, 1, 1, 0, 1, rt⟩ := by simp [underC, a2, a3]
  have hcb : underC B 1 1 1 rt = ⟨0, 1, 1, 1, 0, 1, rt⟩ := by simp [underC, b2, b3]
  rw [hca, hcb]
  unfold addT
  rw [z.made]
  split
  · intro _ _ _ _; exact stay
  intro w1 w2 l1 l2
  obtain ⟨ca, f1, f2⟩ := z.fa
  obtain ⟨cb, g1, g2⟩ := z.fb
  refine ⟨w1, w2, by omega, by omega, ⟨ca, findC_snoc _ f1, f2⟩, ⟨cb, findC_snoc _ g1, g2⟩, fun c hc => ?_, fun c hc => ?_, ?_⟩
  · rcases List.mem_append.1 hc with hc | hc
    · exact z.ma c hc
    · simp at hc; subst hc; exact ⟨rfl, rfl⟩
  · rcases List.mem_append.1 hc with hc | hc
    · exact z.mb c hc
    · simp at hc; subst hc; exact fun _ => rfl
  · simp only [List.filter_append, List.map_append, z.eq, List.filter_cons, List.filter_nil, decide_true, if_true, List.map_cons, List.map_nil]
    rfl
theorem OI.add {A B : CS} {n : Int} (z : OI A B n) (hn : n < 1000000) {c : Cp} (hm : c.mr ≠ 1) (hp : 0 ≤ c.par ∧ c.par ≤ B.last) : OI A (addT B c) (n + 1) := by
  have hla := z.la
  have hlb := z.lb
  have w2 := z.wb.add (c := c) hp (by omega)
  have l2 := (addT_last B c).2
  revert w2 l2
  unfold addT
  split
  · intro _ _; exact ⟨z.wa, z.wb, by omega, by omega, z.fa, z.fb, z.ma, z.mb, z.eq⟩
  intro w2 l2
  obtain ⟨cb, g1, g2⟩ := z.fb
  refine ⟨z.wa, w2, by omega, by omega, z.fa, ⟨cb, findC_snoc _ g1, g2⟩, z.ma, fun d hd => ?_, ?_⟩
  · rcases List.mem_append.1 hd with hd | hd
    · exact z.mb d hd
    · simp at hd; subst hd; exact fun h => absurd h hm
  · simp only [List.filter_append, List.map_append, z.eq, List.filter_cons, List.filter_nil, hm, decide_false, Bool.false_eq_true, if_false, List.map_nil, List.append_nil]
theorem OI.up {A B : CS} {n : Int} (z : OI A B n) : OI A B (n + 1) := ⟨z.wa, z.wb, by have := z.la; omega, by have := z.lb; omega, z.fa, z.fb, z.ma, z.mb, z.eq⟩
theorem OI.und {A B : CS} {n : Int} (z : OI A B n) (hn : n < 1000000) (a id to rt need : Int) (ha : a ≠ 1) : OI A (underT B a id to rt need) (n + 1) := by
  unfold underT
  split
  · exact z.up
  split
  · exact z.up
  rename_i h1 h2
  split
  · exact z.up
  refine z.add hn (c := underC B a id to rt) ha ?_
  obtain ⟨c, hc, _⟩ := mine_zero (Decidable.not_not.1 h2)
  obtain ⟨hm, hi⟩ := findC_some hc
  have := z.wb.ids c hm
  show 0 ≤ id ∧ id ≤ B.last
  omega
theorem OI.other {A B : CS} {n : Int} (z : OI A B n) (hn : n < 1000000) (s : St) (ha : s.a ≠ 1) (h4 : s.k ≠ 4) (h5 : s.k ≠ 5) : OI A (oneT B s) (n + 1) := by
  unfold oneT
  split
  · unfold rootT
    split
    · have := z.wb.last
      exact z.add hn (c := rootC s.a s.th s.ob s.rt) ha (show 0 ≤ (0 : Int) ∧ (0 : Int) ≤ B.last by omega)
    · exact z.up
  split
  · exact z.und hn _ _ _ _ _ ha
  split
  · exact z.und hn _ _ _ _ _ ha
  · exact z.up
theorem any_core {f : Int × Int × Int → Bool} {l : List Cp} : (l.any fun c => f (core c)) = (l.map core).any f := by rw [List.any_map]; rfl
theorem OI.may {A B : CS} {n : Int} (z : OI A B n) (hg : grantB B = false) (rt : Int) : mayB A 1 0 1 rt = mayB B 1 0 1 rt := by
  have hA : allL A.L 1 = A.L := filter_all fun c hc => decide_eq_true (.inr (z.ma c hc).2)
  have hB : allL B.L 1 = B.L.filter fun c => decide (c.mr = 1) := by
    unfold allL
    refine List.filter_congr fun c hc => decide_eq_decide.2 ⟨fun h => ?_, fun h => .inr (z.mb c hc h)⟩
    have h : c.ac = 1 := h.resolve_left (by omega)
    have hm : c ∈ allL B.L 1 := List.mem_filter.2 ⟨hc, decide_eq_true (.inr h)⟩
    unfold grantB at hg
    rw [List.any_eq_false] at hg
    have := hg c hm
    simpa using this
  unfold mayB
  rw [hA, hB]
  have e : ∀ l : List Cp, l.any (mayC 0 1 rt) = (l.map core).any fun x => decide (x.1 = 0) && (decide (x.2.1 = 1) && decide (anot rt x.2.2 = 0)) := fun l => by rw [List.any_map]; rfl
  rw [e, e, z.eq]
theorem OI.start : OI (rootT ⟨[], 0⟩ 1 0 1 7) (rootT ⟨[], 0⟩ 1 0 1 7) 1 := by
  have w : WF ⟨[], 0⟩ := ⟨List.Pairwise.nil, fun c hc => (by cases hc), ⟨by show (0 : Int) ≤ 0; omega, by show (0 : Int) ≤ 1000000; omega⟩, fun c hc => (by cases hc)⟩
  have w1 := w.root (by show (0 : Int) < 1000000; omega) 1 0 1 7
  have e : rootT ⟨[], 0⟩ 1 0 1 7 = ⟨[⟨1, 0, 1, 1, 0, 1, 7⟩], 1⟩ := by
    unfold rootT
    rw [if_pos (show rootOk 1 0 1 7 from ⟨⟨by omega, by omega⟩, by omega, by omega, ⟨by omega, by omega⟩⟩)]
    rfl
  rw [e] at w1 ⊢
  exact ⟨w1, w1, Int.le_refl _, Int.le_refl _, ⟨_, rfl, rfl, rfl, rfl, rfl⟩, ⟨_, rfl, rfl, rfl, rfl, rfl⟩, fun c hc => by simp at hc; subst hc; exact ⟨rfl, rfl⟩, fun c hc => by simp at hc; subst hc; exact fun _ => rfl, rfl⟩
theorem root_one : rootI ⟨[], 0⟩ 1 0 1 7 = 1 ∧ rootE ⟨[], 0⟩ 1 0 1 7 = 0 := by
  have h : rootOk 1 0 1 7 := ⟨⟨by omega, by omega⟩, by omega, by omega, ⟨by omega, by omega⟩⟩
  rw [rootI, rootE, if_pos h, if_pos h]
  exact ⟨rfl, rfl⟩
end Go.Proofs.Ytehgjkopobkbmaa
