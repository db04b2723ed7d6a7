/- ExtentsSteps: the law. -/
import Derived.Test.YthdkhbhicimpdaaFG
import Derived.Test.YthdkhbhicimpdaaEC
set_option linter.unusedVariables false
set_option maxRecDepth 100000
namespace Go.Proofs.Ythdkhbhicimpdaa
open Go Go.Vm
attribute [-go_sem] sz_113
structure StepsU (h : Heap) (v : V) (m : Nat) : Prop where
  len : m ≤ 9223372036854775807
  at' : (m = 0 ∧ (v = .slice none 0 0 true ∨ ∃ a, v = .esl a)) ∨ ∃ b o cap c ce, v = .slice (some (b, o)) m cap true ∧ h.get b = some (.cells c ce) ∧ o + m * 6 ≤ c.size ∧ ∀ i, i < m → ∃ kd n1 n2 n3 d l kv mk ks kw, c.get (o + i * 6) = .int .i64 kd ∧ c.get (o + i * 6 + 1) = .int .i64 n1 ∧ c.get (o + i * 6 + 2) = .int .i64 n2 ∧ c.get (o + i * 6 + 3) = .int .i64 n3 ∧ c.get (o + i * 6 + 4) = d ∧ c.get (o + i * 6 + 5) = kv ∧ (BytesV h (fun b => b < h.n) d l ∧ l.length ≤ 100000000) ∧ (KeepV h (fun b => b < h.n) kv mk ks kw ∧ mk ≤ 10000000) ∧ (i64B n1 ∧ i64B n2 ∧ i64B n3)
theorem BytesV.mono {h : Heap} {R R' : Set'} {v : V} {l : List V} (hv : BytesV h R v l) (hk : ∀ b, R b → R' b) : BytesV h R' v l :=
  ⟨hv.1, hv.2.1, hv.2.2.imp id fun ⟨b, o, cap, ex, c, ce, e, hR, r⟩ => ⟨b, o, cap, ex, c, ce, e, hk b hR, r⟩⟩
theorem KeepV.mono {h : Heap} {R R' : Set'} {v : V} {m : Nat} {ks kw : Nat → Int} (hv : KeepV h R v m ks kw) (hk : ∀ b, R b → R' b) : KeepV h R' v m ks kw :=
  ⟨hv.1, hv.2.imp id fun ⟨b, o, cap, ex, c, ce, e, hR, r⟩ => ⟨b, o, cap, ex, c, ce, e, hk b hR, r⟩⟩
theorem StepsU.v {h : Heap} {v : V} {m : Nat} (hv : StepsU h v m) : StepsV h v m := by
  refine ⟨hv.len, hv.at'.imp id ?_⟩
  rintro ⟨b, o, cap, c, ce, e, hb, hs, hc⟩
  refine ⟨b, o, cap, c, ce, e, hb, hs, fun i hi => ?_⟩
  obtain ⟨kd, n1, n2, n3, d, l, kv, mk, ks, kw, e0, e1, e2, e3, e4, e5, e6, e7, e8⟩ := hc i hi
  exact ⟨kd, n1, n2, n3, d, kv, e0, e1, e2, e3, e4, e5, ⟨⟨l, e6.1.mono fun _ _ => trivial⟩, ⟨mk, ks, kw, e7.1.mono fun _ _ => trivial⟩, e8⟩⟩
theorem PX.box {P : Set'} {h h2 : Heap} {u : UU} {X : XS} {D : DS} {SX SD : Set'} {rx rd qb hb fb pb : Nat} {hk : Nat → Nat} (z : PX P h u X D SX SD rx rd qb hb fb pb hk) (hn : h2.n = h.n + 1) (kk : ∀ b, b < h.n → h2.get b = h.get b) : PX (fun b => P b ∧ b ≠ h.n) h2 u X D SX SD rx rd qb hb fb pb hk :=
  ⟨z.au.old kk, z.rx.old kk, z.rd.old kk, fun b hb => by obtain ⟨a, b1, c⟩ := z.sx b hb; exact ⟨⟨a, by omega⟩, by omega, c⟩, fun b hb => by obtain ⟨a, b1, c⟩ := z.sd b hb; exact ⟨⟨a, by omega⟩, by omega, c⟩, fun b hb => ⟨z.fu b hb, by have := z.au.lt b hb; omega⟩, z.fit, fun b hb => ⟨z.up b (by omega), by omega⟩⟩
structure LI (H g : Heap) (x7 i : Nat) (X0 : XS) : Prop where
  st : ∃ (u : UU) (SX SD : Set') (rx rd qb hb fb pb : Nat) (hk : Nat → Nat) (cc : Blk), PX (fun b => H.n ≤ b ∧ b ≠ x7) g u u.X u.D SX SD rx rd qb hb fb pb hk ∧ g.get x7 = some (.cells cc 29) ∧ cc.size = 3 ∧ cc.ro = false ∧ cc.get 0 = .ptr (some (u.bx, 0)) ∧ cc.get 1 = .ptr (some (u.bd, 0)) ∧ cc.get 2 = .ptr (some (rx, 0)) ∧ (∀ s, (u.D.pe s).length ≤ i) ∧ u.X.n = X0.n ∧ u.X.first = X0.first ∧ u.X.count = X0.count
  hx : H.n ≤ x7
  old : ∀ b, b < H.n → g.get b = H.get b
end Go.Proofs.Ythdkhbhicimpdaa
