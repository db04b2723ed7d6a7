/- Read, Write, Flush of any numbers on both sides. -/
import Derived.Test.YthdkhbhicimpdaaF5
set_option linter.unusedVariables false
set_option maxRecDepth 100000
namespace Go.Proofs.Ythdkhbhicimpdaa
open Go Go.Vm
attribute [-go_sem] sz_113
def WQ (X : XS) (D : DS) (a s : Int) (l : List V) (v : V) (D' : DS) : Prop := (X.own a s ∧ l.length = 128 ∧ v = .int .i64 0 ∧ D' = D.write (X.first a.toNat + s.toNat) l) ∨ (X.own a s ∧ l.length ≠ 128 ∧ v = .int .i64 2 ∧ D' = D) ∨ (¬ X.own a s ∧ v = .int .i64 (X.err a) ∧ D' = D)
theorem WQ.uniq {X : XS} {D : DS} {a s : Int} {l : List V} {v v' : V} {E E' : DS} (h : WQ X D a s l v E) (h' : WQ X D a s l v' E') : v = v' ∧ E = E' := by
  rcases h with ⟨h1, h2, rfl, rfl⟩ | ⟨h1, h2, rfl, rfl⟩ | ⟨h1, rfl, rfl⟩ <;> rcases h' with ⟨g1, g2, rfl, rfl⟩ | ⟨g1, g2, rfl, rfl⟩ | ⟨g1, rfl, rfl⟩ <;> first | exact ⟨rfl, rfl⟩ | exact absurd h2 g2 | exact absurd g2 h2 | exact absurd h1 g1 | exact absurd g1 h1
theorem WQ.shape {X : XS} {D : DS} {a s : Int} {l : List V} {v : V} {E : DS} (h : WQ X D a s l v E) : ∃ x : Int, v = .int .i64 x := by
  rcases h with ⟨_, _, rfl, _⟩ | ⟨_, _, rfl, _⟩ | ⟨_, rfl, _⟩ <;> exact ⟨_, rfl⟩
theorem WQ.n {X : XS} {D : DS} {a s : Int} {l : List V} {v : V} {E : DS} (h : WQ X D a s l v E) : E.n = D.n ∧ ∀ t, (E.pe t).length ≤ (D.pe t).length + 1 := by
  rcases h with ⟨_, _, _, rfl⟩ | ⟨_, _, _, rfl⟩ | ⟨_, _, rfl⟩
  · exact ⟨rfl, write_few D _ l⟩
  · exact ⟨rfl, fun t => Nat.le_succ _⟩
  · exact ⟨rfl, fun t => Nat.le_succ _⟩
theorem uwrite_any {h : Heap} {R W Rd : Set'} {u : UU} (hu : AtU h u) (hR : ∀ b, u.foot b → R b) (hRd : ∀ b, Rd b → R b) (hW : ∀ b, u.foot b → W b) (a s : Int) {d : V} {l : List V} (hd : BytesV h Rd d l) (few : ∀ s, (u.D.pe s).length < 1000000000) :
    SF Try.prog 26 [.ptr (some (u.bx, 0)), .int .i64 a, .int .i64 s, d] h R W fun r h' => ∃ u', WQ u.X u.D a s l r u'.D ∧ AtU h' u' ∧ u'.X = u.X ∧ u'.bx = u.bx ∧ u'.bd = u.bd ∧ ∀ b, u'.foot b → u.foot b ∨ h.n ≤ b := by
  by_cases ho : u.X.own a s
  · have ha := ho.1
    obtain ⟨i, rfl⟩ := Int.eq_ofNat_of_zero_le ha.1
    refine (uwrite hu hR hRd hW (a := i) (by omega) s hd few).mono ?_
    rintro r h' (⟨h1, h2, h3, nb, hnb, hu2⟩ | ⟨h1, h2, h3, rfl⟩ | ⟨h1, _⟩)
    · refine ⟨_, .inl ⟨h1, h2, h3, rfl⟩, hu2, rfl, rfl, rfl, fun b hb => ?_⟩
      rcases UU.foot_write hb with h | rfl
      · exact .inl h
      · exact .inr hnb
    · exact ⟨u, .inr (.inl ⟨h1, h2, h3, rfl⟩), hu, rfl, rfl, rfl, fun b hb => .inl hb⟩
    · exact absurd ho h1
  · refine (xwrite_bad hu.x (fun b hb => hR b (.inr hb)) ho d).mono ?_
    rintro r h' ⟨rfl, rfl⟩
    exact ⟨u, .inr (.inr ⟨ho, rfl, rfl⟩), hu, rfl, rfl, rfl, fun b hb => .inl hb⟩
def FQ (X : XS) (D : DS) (a : Int) (v : V) (D' : DS) : Prop := (¬ (0 ≤ a ∧ a < X.n) ∧ v = .int .i64 2 ∧ D' = D) ∨ ∃ i : Nat, a = i ∧ i < X.n ∧ v = .int .i64 0 ∧ D' = D.flush (X.first i) (X.count i)
theorem FQ.uniq {X : XS} {D : DS} {a : Int} {v v' : V} {E E' : DS} (h : FQ X D a v E) (h' : FQ X D a v' E') : v = v' ∧ E = E' := by
  rcases h with ⟨h1, rfl, rfl⟩ | ⟨i, rfl, h1, rfl, rfl⟩ <;> rcases h' with ⟨g1, rfl, rfl⟩ | ⟨j, e, g1, rfl, rfl⟩
  · exact ⟨rfl, rfl⟩
  · omega
  · omega
  · obtain rfl : i = j := by omega
    exact ⟨rfl, rfl⟩
theorem FQ.shape {X : XS} {D : DS} {a : Int} {v : V} {E : DS} (h : FQ X D a v E) : ∃ x : Int, v = .int .i64 x := by
  rcases h with ⟨_, rfl, _⟩ | ⟨i, _, _, rfl, _⟩ <;> exact ⟨_, rfl⟩
theorem FQ.n {X : XS} {D : DS} {a : Int} {v : V} {E : DS} (h : FQ X D a v E) : E.n = D.n ∧ ∀ t, (E.pe t).length ≤ (D.pe t).length + 1 := by
  rcases h with ⟨_, _, rfl⟩ | ⟨i, _, _, _, rfl⟩
  · exact ⟨rfl, fun t => Nat.le_succ _⟩
  · exact ⟨rfl, flush_few D _ _⟩
theorem uflush_any {h : Heap} {u : UU} (hu : AtU h u) (a : Int) : SF Try.prog 28 [.ptr (some (u.bx, 0)), .int .i64 a] h u.foot u.foot fun r h' => ∃ u', FQ u.X u.D a r u'.D ∧ AtU h' u' ∧ u'.X = u.X ∧ u'.bx = u.bx ∧ u'.bd = u.bd ∧ ∀ b, u'.foot b → u.foot b ∨ h.n ≤ b := by
  by_cases ha : 0 ≤ a ∧ a < u.X.n
  · obtain ⟨i, rfl⟩ := Int.eq_ofNat_of_zero_le ha.1
    refine (xflush_ok hu (fun _ h => h) (fun _ h => h) (a := i) (by omega)).mono ?_
    rintro r h' ⟨rfl, h1⟩
    exact ⟨_, .inr ⟨i, rfl, by omega, rfl, rfl⟩, h1, rfl, rfl, rfl, fun b hb => .inl (UU.foot_flush hb)⟩
  · refine (xflush_bad hu.x (.inr (.inl rfl)) ha).mono ?_
    rintro r h' ⟨rfl, rfl⟩
    exact ⟨u, .inl ⟨ha, rfl, rfl⟩, hu, rfl, rfl, rfl, fun b hb => .inl hb⟩
theorem rxwrite_any {h : Heap} {SX SD : Set'} {rx rd qb hb fb pb : Nat} {hk : Nat → Nat} {X : XS} {D : DS} (hr : RExt h SX rx rd qb hb hk X) (hd : RefX h SD rd fb pb D) (hSD : ∀ b, SD b → b < h.n) (fit : ∀ a, a < X.n → X.first a + X.count a ≤ D.n) (a s : Int) {w : V} {l : List V} (hv : LR h (fun _ => True) w l) (hll : ∀ h, lenV Try.prog 45 w h = some (l.length, [])) (hl : l.length = 128 → IsSec l) (few : ∀ s, (D.pe s).length < 1000000000) :
    SF Try.prog 51 [.ptr (some (rx, 0)), .int .i64 a, .int .i64 s, w] h (fun _ => True) SD fun v h' => ∃ D', WQ X D a s l v D' ∧ RefX h' (Rn SD h.n h'.n) rd fb pb D' := by
  refine (rxwrite hr hd fit (fun _ => trivial) (fun _ h => h) a s hv hll hl few).mono ?_
  rintro v h' (⟨h1, h2, h3, h4⟩ | ⟨h1, h2, h3, rfl⟩ | ⟨h1, h3, rfl⟩)
  · exact ⟨_, .inl ⟨h1, h2, h3, rfl⟩, h4⟩
  · exact ⟨D, .inr (.inl ⟨h1, h2, h3, rfl⟩), hd.mono fun b _ hb => .inl hb⟩
  · exact ⟨D, .inr (.inr ⟨h1, h3, rfl⟩), hd.mono fun b _ hb => .inl hb⟩
theorem rxflush_any {h : Heap} {SX SD : Set'} {rx rd qb hb fb pb : Nat} {hk : Nat → Nat} {X : XS} {D : DS} (hr : RExt h SX rx rd qb hb hk X) (hd : RefX h SD rd fb pb D) (fit : ∀ a, a < X.n → X.first a + X.count a ≤ D.n) (a : Int) :
    SF Try.prog 52 [.ptr (some (rx, 0)), .int .i64 a] h (fun _ => True) SD fun v h' => ∃ D', FQ X D a v D' ∧ RefX h' (Rn SD h.n h'.n) rd fb pb D' := by
  by_cases ha : 0 ≤ a ∧ a < X.n
  · obtain ⟨i, rfl⟩ := Int.eq_ofNat_of_zero_le ha.1
    refine (rxflush_ok hr hd fit (fun _ => trivial) (fun _ h => h) (i := i) (by omega)).mono ?_
    rintro v h' ⟨rfl, h1⟩
    exact ⟨_, .inr ⟨i, rfl, by omega, rfl, rfl⟩, h1⟩
  · refine (rxflush_bad hr (fun _ => trivial) ha).mono ?_
    rintro v h' ⟨rfl, rfl⟩
    exact ⟨D, .inl ⟨ha, rfl, rfl⟩, hd.mono fun b _ hb => .inl hb⟩
end Go.Proofs.Ythdkhbhicimpdaa
