/- The disk as its user sees it: its blocks in one set. -/
import Derived.Test.YtakgjjbmniilhaaDC
import Derived.Test.YtakgjjbmniilhaaC
set_option linter.unusedVariables false
set_option linter.unusedSimpArgs false
set_option linter.unusedSimpArgs false
set_option maxRecDepth 100000
set_option linter.unusedVariables false
set_option linter.unusedSimpArgs false
namespace Go.Proofs.Ytakgjjbmniilhaa
open Go Go.Vm
attribute [-go_sem] sz_101
variable {h g : Heap} {R W M : Set'} {bd : Nat} {D : DS}
structure DkX (g : Heap) (M : Set') (bd : Nat) (D : DS) : Prop where
  ex : ∃ L, DiskAt g bd L D ∧ ∀ b, Foot bd L D b → M b
  lt : ∀ k, M k → k < g.n
structure Kept (g g' : Heap) (M : Set') : Prop where
  n : g.n ≤ g'.n
  k : ∀ k, k < g.n → ¬ M k → g'.get k = g.get k
def DkQ (g g' : Heap) (M : Set') (bd : Nat) (D : DS) : Prop := Kept g g' M ∧ ∃ M', DkX g' M' bd D ∧ ∀ k, M' k → M k ∨ g.n ≤ k
theorem Kept.refl (g : Heap) (M : Set') : Kept g g M := ⟨Nat.le_refl _, fun _ _ _ => rfl⟩
theorem Kept.old {g' : Heap} (hn : g.n ≤ g'.n) (hk : ∀ k, k < g.n → g'.get k = g.get k) : Kept g g' M := ⟨hn, fun k h _ => hk k h⟩
theorem Kept.trans {g1 g2 : Heap} {M1 : Set'} (a : Kept g g1 M) (b : Kept g1 g2 M1) (hm : ∀ k, M1 k → M k ∨ g.n ≤ k) : Kept g g2 M := ⟨Nat.le_trans a.n b.n, fun k h1 h2 => by
  have := a.n
  rw [b.k k (by omega) fun h3 => (hm k h3).elim h2 fun h4 => by omega, a.k k h1 h2]⟩
theorem DkX.same {g' : Heap} (hx : DkX g M bd D) (hn : g.n ≤ g'.n) (hk : ∀ k, M k → g'.get k = g.get k) : DkX g' M bd D := by
  obtain ⟨⟨L, hd, hf⟩, hl⟩ := hx
  exact ⟨⟨L, hd.same fun b hb _ => hk b (hf b hb), hf⟩, fun k h => Nat.lt_of_lt_of_le (hl k h) hn⟩
theorem DkX.old {g' : Heap} (hx : DkX g M bd D) (hn : g.n ≤ g'.n) (hk : ∀ k, k < g.n → g'.get k = g.get k) : DkX g' M bd D := hx.same hn fun k h => hk k (hx.lt k h)
theorem DkX.mk' {L : DL} (hd : DiskAt g bd L D) : DkX g (Foot bd L D) bd D := ⟨⟨L, hd, fun _ h => h⟩, hd.lt⟩
theorem DkX.pos (hx : DkX g M bd D) : 1 ≤ D.n ∧ D.n ≤ 4096 := by
  obtain ⟨⟨L, hd, _⟩, _⟩ := hx
  exact hd.pos
theorem DkX.hbd (hx : DkX g M bd D) : M bd := by
  obtain ⟨⟨L, hd, hf⟩, _⟩ := hx
  exact hf _ (.inl rfl)
theorem DkX.sec (hx : DkX g M bd D) {s : Nat} (hs : s < D.n) : (D.seen s).length = 128 ∧ Byt (D.seen s) := by
  obtain ⟨⟨L, hd, _⟩, _⟩ := hx
  have := hd.seen hs
  exact ⟨this.1, this.2⟩
theorem new_dk {n : Int} (hn : 1 ≤ n ∧ n ≤ 4096) : SF Try.prog 8 [.int .i64 n] h R W fun v g => ∃ M bd, v = .tuple [.ptr (some (bd, 0)), .int .i64 0] ∧ DkX g M bd (DS.new n.toNat) ∧ (∀ k, M k → h.n ≤ k) ∧ h.n ≤ g.n ∧ ∀ k, k < h.n → g.get k = h.get k := by
  refine SF.mono (SF.foot (new_ok (R := R) (W := noW) hn).kept (fun _ h => h) fun _ h => h.elim) ?_
  rintro v g ⟨⟨L, rfl, h1, h2, hd⟩, vf⟩
  refine ⟨Foot (h.n + 2) L (DS.new n.toNat), _, rfl, DkX.mk' hd, fun k hk => ?_, vf.n, fun k hk => vf.get k hk fun h => h⟩
  rcases hk with rfl | rfl | rfl | ⟨x, hx, _⟩
  · omega
  · exact h1
  · exact h2
  · exact absurd rfl hx
theorem read_dk (hx : DkX h M bd D) (hR : ∀ b, R b) {s : Nat} (hs : s < D.n) : SF Try.prog 29 [.ptr (some (bd, 0)), .int .i64 s] h R W fun v g => ∃ b, v = .tuple [.slice (some (b, 0)) 128 128 true, .int .i64 0] ∧ LR g (fun k => h.n ≤ k) (.slice (some (b, 0)) 128 128 true) (D.seen s) ∧ h.n ≤ g.n ∧ ∀ b, b < h.n → g.get b = h.get b := by
  obtain ⟨⟨L, hd, _⟩, _⟩ := hx
  refine SF.mono (read_ok (R := R) (W := W) hd (fun b _ => hR b) hs).kept ?_
  rintro v g ⟨⟨b, rfl, ⟨c, c1, c2, c3, c4⟩, h1, h2, h3⟩, vf⟩
  have hsec := hd.seen hs
  have hl : (D.seen s).length = 128 := hsec.1
  refine ⟨b, rfl, .inr ⟨b, 0, 128, true, c, _, by rw [hl], h1, c1, by omega, by rw [hl]; exact c4⟩, vf.n, h3⟩
theorem write_dk {S : Set'} {v : V} {l : List V} (hx : DkX h M bd D) (hR : ∀ b, R b) (hW : ∀ b, M b → W b) {s : Nat} (hs : s < D.n) (hv : LR h S v l) (hl : l.length = 128) (hb : Byt l) (few : (D.pe s).length < 1000000000) : SF Try.prog 30 [.ptr (some (bd, 0)), .int .i64 s, v] h R W fun r g => r = .int .i64 0 ∧ DkQ h g M bd (D.write s l) := by
  obtain ⟨⟨L, hd, hf⟩, hlt⟩ := hx
  have hsv : SecV h v l := by
    rcases hv with ⟨rfl, _⟩ | ⟨b, o, cap, ex, c, ce, rfl, _, h1, h2, h3⟩
    · cases hl
    · rw [hl] at h2 h3 ⊢
      exact ⟨b, o, cap, ex, c, ce, rfl, h1, h2, h3⟩
  refine SF.mono (SF.foot (write_ok (R := R) (W := Foot bd L D) hd (fun b _ => hR b) (fun _ h => h) hs hsv (fun b _ _ _ _ _ => hR b) ⟨hl, hb⟩ few).kept (fun _ h => h) fun b h => hW b (hf b h)) ?_
  rintro r g ⟨⟨rfl, nb, hn, hd'⟩, vf⟩
  refine ⟨rfl, ⟨vf.n, fun k h1 h2 => vf.get k h1 fun h3 => h2 (hf k h3)⟩, _, DkX.mk' hd', fun k hk => ?_⟩
  rcases Foot.write hk with h1 | h1
  · exact .inl (hf k h1)
  · exact .inr (by omega)
theorem flush_dk (hx : DkX h M bd D) (hR : ∀ b, R b) (hW : ∀ b, M b → W b) {a m : Nat} (ham : a + m ≤ D.n) : SF Try.prog 38 [.ptr (some (bd, 0)), .int .i64 a, .int .i64 m] h R W fun r g => r = .int .i64 0 ∧ DkQ h g M bd (D.flush a m) := by
  obtain ⟨⟨L, hd, hf⟩, hlt⟩ := hx
  refine SF.mono (SF.foot (flush_ok (R := R) (W := Foot bd L D) hd (fun b _ => hR b) (fun _ h => h) ham).kept (fun _ h => h) fun b h => hW b (hf b h)) ?_
  rintro r g ⟨⟨rfl, hd'⟩, vf⟩
  exact ⟨rfl, ⟨vf.n, fun k h1 h2 => vf.get k h1 fun h3 => h2 (hf k h3)⟩, _, DkX.mk' hd', fun k hk => .inl (hf k (Foot.flush hk))⟩
theorem copy_dk (hx : DkX h M bd D) (hR : ∀ b, R b) : SF ⟨Try.prog, true⟩ 28 [.ptr (some (bd, 0))] h R W fun v g => ∃ M' bd', v = .ptr (some (bd', 0)) ∧ DkX g M' bd' D ∧ (∀ k, M' k → h.n ≤ k) ∧ h.n ≤ g.n ∧ ∀ k, k < h.n → g.get k = h.get k := by
  obtain ⟨⟨L, hd, hf⟩, hlt⟩ := hx
  refine SF.mono (copy_ok hd hR) ?_
  rintro v g ⟨bd', L', rfl, hd', h1, h2, h3⟩
  exact ⟨_, _, rfl, DkX.mk' hd', fun k hk => (h1 k hk).1, h2, h3⟩
theorem size_dk (hx : DkX h M bd D) (hR : ∀ b, R b) : SF Try.prog 58 [.ptr (some (bd, 0))] h R W fun v g => v = .int .i64 D.n ∧ g = h := by
  obtain ⟨⟨L, hd, hf⟩, hlt⟩ := hx
  obtain ⟨c, h1, hs, _, c0, _⟩ := hd.d
  have hp := hd.pos
  have hRb := hR bd
  refine SF.go hm Try.func58 ir58_eq ?_
  simp -implicitDefEqProofs (disch := (first | omega | (simp -implicitDefEqProofs only [szs, ne_eq] <;> omega) | fail)) only [go_sem, seval, ↓reduceIte, reduceCtorEq, ir58]
  refine GCall.of (there_ok hd (.inr hRb)) ?_
  rintro v g ⟨rfl, rfl⟩
  simp -implicitDefEqProofs (disch := (first | omega | (simp -implicitDefEqProofs only [szs, ne_eq] <;> omega) | fail)) only [go_sem, seval, ↓reduceIte, reduceCtorEq, h1, c0, hRb, undefV]
end Go.Proofs.Ytakgjjbmniilhaa
