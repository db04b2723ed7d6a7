/- Reads of both; a step's place; the strings of bytes. -/
import Derived.Test.YthdkhbhicimpdaaFC
set_option linter.unusedVariables false
set_option maxRecDepth 100000
namespace Go.Proofs.Ythdkhbhicimpdaa
open Go Go.Vm
attribute [-go_sem] sz_113
theorem conv_lr {h : Heap} {R : Set'} {v : V} {l : List V} (hv : LR h R v l) (hl : ∀ v ∈ l, ∃ n : Int, v = .int .u8 n ∧ 0 ≤ n ∧ n ≤ 255) : ∃ rs, (∀ b ∈ rs, R b ∧ b < h.n) ∧ ∀ g, (∀ b, R b → b < h.n → g.get b = h.get b) → convV Try.prog 45 9 v g = some (.str (strB l), rs) := by
  rcases hv with ⟨rfl, rfl | ⟨a, rfl⟩⟩ | ⟨b, o, cap, ex, c, ce, rfl, hR, hb, hs, hg⟩
  · exact ⟨[], by simp, fun g _ => by simp [convV, Try.underlying45, Try.underlying9, Try.underlying5]; rfl⟩
  · exact ⟨[], by simp, fun g _ => by simp [convV, Try.underlying45, Try.underlying9, Try.underlying5]; rfl⟩
  · have hlt := Heap.lt_of_get hb
    refine ⟨[b], fun b' hb' => by simp at hb'; rw [hb']; exact ⟨hR, hlt⟩, fun g hk => ?_⟩
    exact conv_str ((hk b hR hlt).trans hb) hs hg hl
def RdQ (X : XS) (D : DS) (a s : Int) (l : List V) (e : Int) : Prop := (X.own a s ∧ l = D.seen (X.first a.toNat + s.toNat) ∧ e = 0) ∨ (¬ X.own a s ∧ l = [] ∧ e = X.err a)
theorem RdQ.uniq {X : XS} {D : DS} {a s : Int} {l l' : List V} {e e' : Int} (h : RdQ X D a s l e) (h' : RdQ X D a s l' e') : l = l' ∧ e = e' := by
  rcases h with ⟨h1, rfl, rfl⟩ | ⟨h1, rfl, rfl⟩ <;> rcases h' with ⟨g1, rfl, rfl⟩ | ⟨g1, rfl, rfl⟩ <;> first | exact ⟨rfl, rfl⟩ | exact absurd h1 g1 | exact absurd g1 h1
theorem own_lt {X : XS} {D : DS} (fit : ∀ a, a < X.n → X.first a + X.count a ≤ D.n) {a s : Int} (ho : X.own a s) : X.first a.toNat + s.toNat < D.n := by
  obtain ⟨i, d, rfl, rfl, hi, hdc, hh⟩ := own_nat ho
  have := fit i hi
  simp only [Int.toNat_natCast]
  omega
theorem uread_any {h : Heap} {u : UU} (hu : AtU h u) (fit : ∀ a, a < u.X.n → u.X.first a + u.X.count a ≤ u.D.n) (a s : Int) : SF Try.prog 42 [.ptr (some (u.bx, 0)), .int .i64 a, .int .i64 s] h (fun _ => True) (fun _ => False) fun v h' => ∃ w l e, v = .tuple [w, .int .i64 e] ∧ RdQ u.X u.D a s l e ∧ LR h' (fun b => h.n ≤ b) w l ∧ (∀ v ∈ l, ∃ n : Int, v = .int .u8 n ∧ 0 ≤ n ∧ n ≤ 255) ∧ ∀ b, b < h.n → h'.get b = h.get b := by
  by_cases ho : u.X.own a s
  · obtain ⟨i, d, rfl, rfl, hi, hdc, hh⟩ := own_nat ho
    refine (xread_ok hu (fun _ _ => trivial) hi hdc hh).mono ?_
    rintro v h' ⟨b, rfl, ⟨c, b1, b2, b3, b4⟩, b5, b6, b7⟩
    have hsec := hu.d.seen (s := u.X.first i + d) (by have := fit i hi; omega)
    have hl : (u.D.seen (u.X.first i + d)).length = 128 := hsec.1.trans secN_eq
    refine ⟨_, _, _, rfl, .inl ⟨ho, by simp only [Int.toNat_natCast], rfl⟩, .inr ⟨b, 0, 128, true, c, _, by rw [hl], b5, b1, by rw [hl]; omega, by rw [hsec.1]; exact b4⟩, hsec.2, b7⟩
  · refine (xread_bad hu.x (fun _ _ => trivial) ho).mono ?_
    rintro v h' ⟨rfl, rfl⟩
    exact ⟨_, [], _, rfl, .inr ⟨ho, rfl, rfl⟩, .inl ⟨rfl, .inl rfl⟩, (fun v hv => by cases hv), fun _ _ => rfl⟩
theorem rread_any {h : Heap} {SX SD : Set'} {rx rd qb hb : Nat} {hk : Nat → Nat} {X : XS} {D : DS} (hr : RExt h SX rx rd qb hb hk X) (hd : RefAt h SD rd D) (fit : ∀ a, a < X.n → X.first a + X.count a ≤ D.n) (hsec : ∀ s, s < D.n → IsSec (D.seen s)) (a s : Int) : SF Try.prog 53 [.ptr (some (rx, 0)), .int .i64 a, .int .i64 s] h (fun _ => True) (fun _ => False) fun v h' => (∃ w l e, v = .tuple [w, .int .i64 e] ∧ RdQ X D a s l e ∧ LR h' SD w l ∧ (∀ v ∈ l, ∃ n : Int, v = .int .u8 n ∧ 0 ≤ n ∧ n ≤ 255)) ∧ h' = h := by
  refine (rxread hr hd fit (fun _ => trivial) a s).mono ?_
  rintro v h' ⟨⟨ho, v', rfl, hl⟩ | ⟨ho, rfl⟩, rfl⟩
  · have hlt := own_lt fit ho
    exact ⟨⟨_, _, _, rfl, .inl ⟨ho, rfl, rfl⟩, hl, (hsec _ hlt).2⟩, rfl⟩
  · exact ⟨⟨_, [], _, rfl, .inr ⟨ho, rfl, rfl⟩, .inl ⟨rfl, .inl rfl⟩, fun v hv => by cases hv⟩, rfl⟩
theorem sb_eql (s : ByteArray) : strBin .eql s s = some (.bool true) := by
  show some (V.bool (eqB s.data.toList s.data.toList)) = _
  rw [eqB_eq]; simp
theorem stDo (h : Heap) (x d r : V) (kd a b c : Int) (dv kv : V) : ∃ h2, (((h.push (O.cells (Blk.of [x, d, r]) 29)).push (O.cells (Blk.of [V.int IntKind.i64 kd, V.int IntKind.i64 a, V.int IntKind.i64 b, V.int IntKind.i64 c, dv, kv]) 48)).push (O.cells (Blk.of [V.ptr none, V.ptr none, V.ptr none]) 29)) = h2 ∧ h2.n = h.n + 3 ∧ (∃ s, h2.get h.n = some (.cells s 29) ∧ s.size = 3 ∧ s.ro = false ∧ s.get 0 = x ∧ s.get 1 = d ∧ s.get 2 = r) ∧ (∃ s, h2.get (h.n + 1) = some (.cells s 48) ∧ s.size = 6 ∧ s.get 0 = .int .i64 kd ∧ s.get 1 = .int .i64 a ∧ s.get 2 = .int .i64 b ∧ s.get 3 = .int .i64 c ∧ s.get 4 = dv ∧ s.get 5 = kv) ∧ (∃ s, h2.get (h.n + 2) = some (.cells s 29) ∧ s.size = 3 ∧ s.ro = false) ∧ ∀ b, b < h.n → h2.get b = h.get b :=
  ⟨_, rfl, by simp, ⟨_, by rw [w_push_ne (by simp; omega), w_push_ne (by simp), w_push_eq rfl], rfl, rfl, rfl, rfl, rfl⟩, ⟨_, by rw [w_push_ne (by simp), w_push_eq (by simp)], rfl, rfl, rfl, rfl, rfl, rfl, rfl⟩, ⟨_, w_push_eq (by simp) _, rfl, rfl⟩, fun b hb => by rw [w_push_ne (by simp; omega), w_push_ne (by simp; omega), w_push_ne (by omega)]⟩
end Go.Proofs.Ythdkhbhicimpdaa
