/- Both at once: PX; Take and Give of any numbers on both sides. -/
import Derived.Test.YthdkhbhicimpdaaF4
set_option linter.unusedVariables false
set_option maxRecDepth 100000
namespace Go.Proofs.Ythdkhbhicimpdaa
open Go Go.Vm
attribute [-go_sem] sz_113
structure PX (P : Set') (h : Heap) (u : UU) (X : XS) (D : DS) (SX SD : Set') (rx rd qb hb fb pb : Nat) (hk : Nat → Nat) : Prop where
  au : AtU h u
  rx : RExt h SX rx rd qb hb hk X
  rd : RefX h SD rd fb pb D
  sx : ∀ b, SX b → P b ∧ b < h.n ∧ ¬ SD b ∧ ¬ u.foot b
  sd : ∀ b, SD b → P b ∧ b < h.n ∧ ¬ u.foot b
  fu : ∀ b, u.foot b → P b
  fit : ∀ a, a < X.n → X.first a + X.count a ≤ D.n
  up : ∀ b, h.n ≤ b → P b
theorem PX.old {P : Set'} {h h2 : Heap} {u : UU} {X : XS} {D : DS} {SX SD : Set'} {rx rd qb hb fb pb : Nat} {hk : Nat → Nat} (z : PX P h u X D SX SD rx rd qb hb fb pb hk) (hn : h.n ≤ h2.n) (kk : ∀ b, b < h.n → h2.get b = h.get b) : PX P h2 u X D SX SD rx rd qb hb fb pb hk :=
  ⟨z.au.old kk, z.rx.old kk, z.rd.old kk, fun b hb => by obtain ⟨a, b1, c⟩ := z.sx b hb; exact ⟨a, by omega, c⟩, fun b hb => by obtain ⟨a, b1, c⟩ := z.sd b hb; exact ⟨a, by omega, c⟩, z.fu, z.fit, fun b hb => z.up b (by omega)⟩
theorem PX.prog {P : Set'} {h h2 : Heap} {u u' : UU} {X : XS} {D : DS} {SX SD : Set'} {rx rd qb hb fb pb : Nat} {hk : Nat → Nat} (z : PX P h u X D SX SD rx rd qb hb fb pb hk) (v : VF h h2 u.foot) (hu : AtU h2 u') (hf : ∀ b, u'.foot b → u.foot b ∨ h.n ≤ b) : PX P h2 u' X D SX SD rx rd qb hb fb pb hk := by
  have hn := v.n
  refine ⟨hu, z.rx.same fun b hb hl => v.get b hl (z.sx b hb).2.2.2, z.rd.same fun b hb hl => v.get b hl (z.sd b hb).2.2, fun b hb => ?_, fun b hb => ?_, fun b hb => ?_, z.fit, fun b hb => z.up b (by omega)⟩
  · obtain ⟨a, b1, c, d⟩ := z.sx b hb
    exact ⟨a, by omega, c, fun h => by rcases hf b h with h | h; exact d h; omega⟩
  · obtain ⟨a, b1, d⟩ := z.sd b hb
    exact ⟨a, by omega, fun h => by rcases hf b h with h | h; exact d h; omega⟩
  · rcases hf b hb with h | h
    · exact z.fu b h
    · exact z.up b h
theorem PX.docD {P : Set'} {h h2 : Heap} {u : UU} {X : XS} {D D' : DS} {SX SD : Set'} {rx rd qb hb fb pb : Nat} {hk : Nat → Nat} (z : PX P h u X D SX SD rx rd qb hb fb pb hk) (v : VF h h2 SD) (hd : RefX h2 (Rn SD h.n h2.n) rd fb pb D') (he : D'.n = D.n) : PX P h2 u X D' SX (Rn SD h.n h2.n) rx rd qb hb fb pb hk := by
  have hn := v.n
  have hlt := z.au.lt
  refine ⟨z.au.same fun b hb hl => v.get b hl fun hs => (z.sd b hs).2.2 hb, z.rx.same fun b hb hl => v.get b hl (z.sx b hb).2.2.1, hd, fun b hb => ?_, fun b hb => ?_, z.fu, fun a ha => by rw [he]; exact z.fit a ha, fun b hb => z.up b (by omega)⟩
  · obtain ⟨a, b1, c, d⟩ := z.sx b hb
    exact ⟨a, by omega, fun h => by rcases h with h | h; exact c h; omega, d⟩
  · rcases hb with hb | hb
    · obtain ⟨a, b1, d⟩ := z.sd b hb
      exact ⟨a, by omega, d⟩
    · exact ⟨z.up b hb.1, hb.2, fun h => by have := hlt b h; omega⟩
theorem PX.docX {P : Set'} {h h2 : Heap} {u : UU} {X X' : XS} {D : DS} {SX SD : Set'} {rx rd qb hb fb pb : Nat} {hk : Nat → Nat} (z : PX P h u X D SX SD rx rd qb hb fb pb hk) (v : VF h h2 SX) (hx : RExt h2 SX rx rd qb hb hk X') (e1 : X'.n = X.n) (e2 : X'.first = X.first) (e3 : X'.count = X.count) : PX P h2 u X' D SX SD rx rd qb hb fb pb hk := by
  have hn := v.n
  refine ⟨z.au.same fun b hb hl => v.get b hl fun hs => (z.sx b hs).2.2.2 hb, hx, z.rd.same fun b hb hl => v.get b hl fun hs => (z.sx b hs).2.2.1 hb, fun b hb => ?_, fun b hb => ?_, z.fu, fun a ha => by rw [e2, e3]; exact z.fit a (by rw [← e1]; exact ha), fun b hb => z.up b (by omega)⟩
  · obtain ⟨a, b1, c⟩ := z.sx b hb
    exact ⟨a, by omega, c⟩
  · obtain ⟨a, b1, c⟩ := z.sd b hb
    exact ⟨a, by omega, c⟩
def TQ (X : XS) (a n : Int) (v : V) (X' : XS) : Prop := ((¬ (0 ≤ a ∧ a < X.n) ∨ n < 1) ∧ v = .tuple [.int .i64 0, .int .i64 2] ∧ X' = X) ∨ ∃ (i N : Nat) (r : Option Nat), a = i ∧ n = N ∧ i < X.n ∧ 1 ≤ N ∧ TakeQ (X.has i) (X.count i) N r ∧ v = takeV r ∧ X' = X.took i N r
theorem TQ.uniq {X : XS} {a n : Int} {v v' : V} {Y Y' : XS} (h : TQ X a n v Y) (h' : TQ X a n v' Y') : v = v' ∧ Y = Y' := by
  rcases h with ⟨h1, rfl, rfl⟩ | ⟨i, N, r, rfl, rfl, h1, h2, h3, rfl, rfl⟩
  · rcases h' with ⟨_, rfl, rfl⟩ | ⟨i, N, r, rfl, rfl, g1, g2, _⟩
    · exact ⟨rfl, rfl⟩
    · omega
  · rcases h' with ⟨g1, _⟩ | ⟨i', N', r', e1, e2, g1, g2, g3, rfl, rfl⟩
    · omega
    · obtain rfl : i = i' := by omega
      obtain rfl : N = N' := by omega
      rw [h3.one g3]
      exact ⟨rfl, rfl⟩
theorem TQ.same {X : XS} {a n : Int} {v : V} {Y : XS} (h : TQ X a n v Y) : Y.n = X.n ∧ Y.first = X.first ∧ Y.count = X.count := by
  rcases h with ⟨_, _, rfl⟩ | ⟨i, N, r, _, _, _, _, _, _, rfl⟩
  · exact ⟨rfl, rfl, rfl⟩
  · exact X.took_n i N r
theorem takeV_shape (r : Option Nat) : ∃ x y : Int, takeV r = .tuple [.int .i64 x, .int .i64 y] := by cases r <;> exact ⟨_, _, rfl⟩
theorem TQ.shape {X : XS} {a n : Int} {v : V} {Y : XS} (h : TQ X a n v Y) : ∃ x y : Int, v = .tuple [.int .i64 x, .int .i64 y] := by
  rcases h with ⟨_, rfl, _⟩ | ⟨i, N, r, _, _, _, _, _, rfl, _⟩
  · exact ⟨_, _, rfl⟩
  · exact takeV_shape r
theorem utake_any {h : Heap} {u : UU} (hu : AtU h u) (a : Int) {n : Int} (hn2 : n ≤ 9223372036854775807) : SF Try.prog 19 [.ptr (some (u.bx, 0)), .int .i64 a, .int .i64 n] h u.foot u.foot fun v h' => ∃ X', TQ u.X a n v X' ∧ AtU h' (u.withX X') := by
  by_cases hb : ¬ (0 ≤ a ∧ a < u.X.n) ∨ n < 1
  · refine (take_bad hu.x (fun b hb => .inr hb) hb).mono ?_
    rintro v h' ⟨rfl, rfl⟩
    exact ⟨u.X, .inl ⟨hb, rfl, rfl⟩, hu⟩
  · obtain ⟨i, rfl⟩ := Int.eq_ofNat_of_zero_le (show 0 ≤ a by omega)
    obtain ⟨N, rfl⟩ := Int.eq_ofNat_of_zero_le (show 0 ≤ n by omega)
    refine (utake hu (fun _ h => h) (fun _ h => h) (a := i) (n := N) (by omega) (by omega) (by omega)).mono ?_
    rintro v h' ⟨r, h1, h2, h3⟩
    exact ⟨_, .inr ⟨i, N, r, rfl, rfl, by omega, by omega, h1, h2, rfl⟩, h3⟩
theorem rtake_any {h : Heap} {SX : Set'} {rx rd qb hb : Nat} {hk : Nat → Nat} {X : XS} (hr : RExt h SX rx rd qb hb hk X) (a : Int) {n : Int} (hn2 : n ≤ 9223372036854775807) : SF Try.prog 49 [.ptr (some (rx, 0)), .int .i64 a, .int .i64 n] h (fun _ => True) SX fun v h' => ∃ X', TQ X a n v X' ∧ RExt h' SX rx rd qb hb hk X' := by
  by_cases hb : ¬ (0 ≤ a ∧ a < X.n) ∨ n < 1
  · refine (rtake_bad hr (fun _ => trivial) hb).mono ?_
    rintro v h' ⟨rfl, rfl⟩
    exact ⟨X, .inl ⟨hb, rfl, rfl⟩, hr⟩
  · obtain ⟨i, rfl⟩ := Int.eq_ofNat_of_zero_le (show 0 ≤ a by omega)
    obtain ⟨N, rfl⟩ := Int.eq_ofNat_of_zero_le (show 0 ≤ n by omega)
    refine (rtake_ok hr (fun _ => trivial) (a := i) (n := N) (by omega) (by omega) (by omega) (fun h0 => hr.s.2.2.2 i (by omega) h0)).mono ?_
    rintro v h' ⟨r, h1, h2, _, _, h3⟩
    exact ⟨_, .inr ⟨i, N, r, rfl, rfl, by omega, by omega, h1, h2, rfl⟩, h3⟩
def GQ (X : XS) (a f n : Int) (v : V) (X' : XS) : Prop := ((¬ (0 ≤ a ∧ a < X.n) ∨ n < 1 ∨ f < 0) ∧ v = .int .i64 2 ∧ X' = X) ∨ ∃ i F N : Nat, a = i ∧ f = F ∧ n = N ∧ i < X.n ∧ 1 ≤ N ∧ ((X.full i F N ∧ v = .int .i64 0 ∧ X' = X.fill i F N false) ∨ (¬ X.full i F N ∧ v = .int .i64 6 ∧ X' = X))
theorem GQ.uniq {X : XS} {a f n : Int} {v v' : V} {Y Y' : XS} (h : GQ X a f n v Y) (h' : GQ X a f n v' Y') : v = v' ∧ Y = Y' := by
  rcases h with ⟨h1, rfl, rfl⟩ | ⟨i, F, N, rfl, rfl, rfl, h1, h2, h3⟩
  · rcases h' with ⟨_, rfl, rfl⟩ | ⟨i, F, N, rfl, rfl, rfl, g1, g2, _⟩
    · exact ⟨rfl, rfl⟩
    · omega
  · rcases h' with ⟨g1, _⟩ | ⟨i', F', N', e1, e2, e3, g1, g2, g3⟩
    · omega
    · obtain rfl : i = i' := by omega
      obtain rfl : F = F' := by omega
      obtain rfl : N = N' := by omega
      rcases h3 with ⟨a1, rfl, rfl⟩ | ⟨a1, rfl, rfl⟩ <;> rcases g3 with ⟨b1, rfl, rfl⟩ | ⟨b1, rfl, rfl⟩
      · exact ⟨rfl, rfl⟩
      · exact absurd a1 b1
      · exact absurd b1 a1
      · exact ⟨rfl, rfl⟩
theorem GQ.same {X : XS} {a f n : Int} {v : V} {Y : XS} (h : GQ X a f n v Y) : Y.n = X.n ∧ Y.first = X.first ∧ Y.count = X.count := by
  rcases h with ⟨_, _, rfl⟩ | ⟨i, F, N, _, _, _, _, _, ⟨_, _, rfl⟩ | ⟨_, _, rfl⟩⟩ <;> exact ⟨rfl, rfl, rfl⟩
theorem GQ.shape {X : XS} {a f n : Int} {v : V} {Y : XS} (h : GQ X a f n v Y) : ∃ x : Int, v = .int .i64 x := by
  rcases h with ⟨_, rfl, _⟩ | ⟨i, F, N, _, _, _, _, _, ⟨_, rfl, _⟩ | ⟨_, rfl, _⟩⟩ <;> exact ⟨_, rfl⟩
theorem ugive_any {h : Heap} {u : UU} (hu : AtU h u) (a : Int) {f n : Int} (hn2 : n ≤ 9223372036854775807) (hf2 : f ≤ 9223372036854775807) : SF Try.prog 20 [.ptr (some (u.bx, 0)), .int .i64 a, .int .i64 f, .int .i64 n] h u.foot u.foot fun v h' => ∃ X', GQ u.X a f n v X' ∧ AtU h' (u.withX X') := by
  by_cases hb : ¬ (0 ≤ a ∧ a < u.X.n) ∨ n < 1 ∨ f < 0
  · refine (give_bad hu.x (fun b hb => .inr hb) hb).mono ?_
    rintro v h' ⟨rfl, rfl⟩
    exact ⟨u.X, .inl ⟨hb, rfl, rfl⟩, hu⟩
  · obtain ⟨i, rfl⟩ := Int.eq_ofNat_of_zero_le (show 0 ≤ a by omega)
    obtain ⟨N, rfl⟩ := Int.eq_ofNat_of_zero_le (show 0 ≤ n by omega)
    obtain ⟨F, rfl⟩ := Int.eq_ofNat_of_zero_le (show 0 ≤ f by omega)
    refine (ugive hu (fun _ h => h) (fun _ h => h) (a := i) (f := F) (n := N) (by omega) (by omega) (by omega) (by omega)).mono ?_
    rintro v h' (⟨h1, h2, h3⟩ | ⟨h1, h2, rfl⟩)
    · exact ⟨_, .inr ⟨i, F, N, rfl, rfl, rfl, by omega, by omega, .inl ⟨h1, h2, rfl⟩⟩, h3⟩
    · exact ⟨u.X, .inr ⟨i, F, N, rfl, rfl, rfl, by omega, by omega, .inr ⟨h1, h2, rfl⟩⟩, hu⟩
theorem rgive_any {h : Heap} {SX : Set'} {rx rd qb hb : Nat} {hk : Nat → Nat} {X : XS} (hr : RExt h SX rx rd qb hb hk X) (a : Int) {f n : Int} (hn2 : n ≤ 9223372036854775807) (hf2 : f ≤ 9223372036854775807) : SF Try.prog 50 [.ptr (some (rx, 0)), .int .i64 a, .int .i64 f, .int .i64 n] h (fun _ => True) SX fun v h' => ∃ X', GQ X a f n v X' ∧ RExt h' SX rx rd qb hb hk X' := by
  by_cases hb : ¬ (0 ≤ a ∧ a < X.n) ∨ n < 1 ∨ f < 0
  · refine (rgive_bad hr (fun _ => trivial) hb).mono ?_
    rintro v h' ⟨rfl, rfl⟩
    exact ⟨X, .inl ⟨hb, rfl, rfl⟩, hr⟩
  · obtain ⟨i, rfl⟩ := Int.eq_ofNat_of_zero_le (show 0 ≤ a by omega)
    obtain ⟨N, rfl⟩ := Int.eq_ofNat_of_zero_le (show 0 ≤ n by omega)
    obtain ⟨F, rfl⟩ := Int.eq_ofNat_of_zero_le (show 0 ≤ f by omega)
    refine (rgive_ok hr (fun _ => trivial) (a := i) (p := F) (n := N) (by omega) (by omega) (by omega) (by omega) (fun h0 => hr.s.2.2.2 i (by omega) h0)).mono ?_
    rintro v h' (⟨h1, h2, _, _, _, h3⟩ | ⟨h1, h2, rfl⟩)
    · exact ⟨_, .inr ⟨i, F, N, rfl, rfl, rfl, by omega, by omega, .inl ⟨h1, h2, rfl⟩⟩, h3⟩
    · exact ⟨X, .inr ⟨i, F, N, rfl, rfl, rfl, by omega, by omega, .inr ⟨h1, h2, rfl⟩⟩, hr⟩
end Go.Proofs.Ythdkhbhicimpdaa
